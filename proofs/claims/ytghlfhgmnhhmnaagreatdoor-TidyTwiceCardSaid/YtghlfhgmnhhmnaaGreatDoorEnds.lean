/-
 tidy.ends: the map of the blocks' signs that it makes. No condition.
-/
import Derived.Test.YtghlfhgmnhhmnaaGreatDoorLines
import Derived.Laws.IdiomRangeMap
import Derived.Maps.RangeRun
import Derived.MapKept
import Derived.Carry
namespace Go.Proofs.YtghlfhgmnhhmnaaGreatDoor.QTidy
open Go.RowKit Go.Proofs.YtghlfhgmnhhmnaaGreatDoorW.PrintWords Go.Proofs.YtghlfhgmnhhmnaaGreatDoorW.PrintLast Go.Proofs.YtghlfhgmnhhmnaaGreatDoorW.PrintMore
set_option linter.unusedVariables false
set_option linter.unusedSimpArgs false

/-- A new key, stored into the map that was made last. -/
theorem run_insert_new {P : Program} {mt kt et : TypeId} (hm : P.underlying mt = some (.map kt et)) (hk : P.underlying kt = some .string) (w : World) (es : Array MapEntry) (clock : Nat) (key : ByteArray) (val : Value)
  (hnew : Instr.findNow .string (.string key) es.toList 0 = some none) :
  (Instr.mapUpdate mt (.map (some w.heap.size)) (.string key) val).run P (w.alloc (.map es clock)) = .ok () (w.alloc (.map (es.push { key := .string key, val := val, born := clock }) (clock + 1))) := by
 have hb : (w.alloc (.map es clock)).heap[w.heap.size]? = some (.map es clock) := heap_alloc_new w _
 have hset : ∀ o : Obj, (setObj w.heap.size o).run P (w.alloc (.map es clock)) = .ok () (w.alloc o) := fun o => by
  rw [Go.MapKept.run_setObj_map o hb]
  show Result.ok () ({ w.alloc (.map es clock) with heap := (w.heap.push (.map es clock)).setIfInBounds w.heap.size o } : World) = _
  have hp : (w.heap.push (.map es clock)).setIfInBounds w.heap.size o = w.heap.push o := by
   apply Array.toList_inj.1
   simp
  rw [hp]
  rfl
 have hck : (Instr.checkKey false 10000 kt (.string key)).run P (w.alloc (.map es clock)) = .ok () (w.alloc (.map es clock)) := Go.MapKept.run_checkKey hk (by simp [Go.MapKept.IsKey]) false 9999
 simp only [Instr.mapUpdate, Sem.run_bind, run_underlying hm, Result.andThen, Go.MapKept.run_getObj_map hb, hck, Go.MapKept.run_findKey hk hnew, hset]

def sgn (a b : List UInt8) (n : Nat) : MapEntry := { key := .string ⟨a.toArray⟩, val := .string ⟨b.toArray⟩, born := n }
def endsMap : Array MapEntry := #[{ key := .string ⟨#[46, 84, 83]⟩, val := .string ⟨#[46, 84, 69]⟩, born := 0 }, { key := .string ⟨#[46, 69, 81]⟩, val := .string ⟨#[46, 69, 78]⟩, born := 1 }, { key := .string ⟨#[46, 80, 83]⟩, val := .string ⟨#[46, 80, 69]⟩, born := 2 }, { key := .string ⟨#[46, 71, 49]⟩, val := .string ⟨#[46, 71, 50]⟩, born := 3 }, { key := .string ⟨#[46, 67, 72]⟩, val := .string ⟨#[46, 67, 69]⟩, born := 4 }, { key := .string ⟨#[46, 91]⟩, val := .string ⟨#[46, 93]⟩, born := 5 }]

set_option maxHeartbeats 2000000 in
theorem ends_calls (w : World) : Calls Tryz.prog 94 #[] w fun e w' => e = .returned (.map (some w.heap.size)) ∧ w' = w.alloc (.map endsMap 6) := by
 have hmm := @run_makeMap Tryz.prog
 have h0 := run_insert_new Tryz.underlying102 Tryz.underlying9 w #[] 0 ⟨#[46, 84, 83]⟩ (.string ⟨#[46, 84, 69]⟩) rfl
 have h1 := run_insert_new Tryz.underlying102 Tryz.underlying9 w #[{ key := .string ⟨#[46, 84, 83]⟩, val := .string ⟨#[46, 84, 69]⟩, born := 0 }] 1 ⟨#[46, 69, 81]⟩ (.string ⟨#[46, 69, 78]⟩) rfl
 have h2 := run_insert_new Tryz.underlying102 Tryz.underlying9 w #[{ key := .string ⟨#[46, 84, 83]⟩, val := .string ⟨#[46, 84, 69]⟩, born := 0 }, { key := .string ⟨#[46, 69, 81]⟩, val := .string ⟨#[46, 69, 78]⟩, born := 1 }] 2 ⟨#[46, 80, 83]⟩ (.string ⟨#[46, 80, 69]⟩) rfl
 have h3 := run_insert_new Tryz.underlying102 Tryz.underlying9 w #[{ key := .string ⟨#[46, 84, 83]⟩, val := .string ⟨#[46, 84, 69]⟩, born := 0 }, { key := .string ⟨#[46, 69, 81]⟩, val := .string ⟨#[46, 69, 78]⟩, born := 1 }, { key := .string ⟨#[46, 80, 83]⟩, val := .string ⟨#[46, 80, 69]⟩, born := 2 }] 3 ⟨#[46, 71, 49]⟩ (.string ⟨#[46, 71, 50]⟩) rfl
 have h4 := run_insert_new Tryz.underlying102 Tryz.underlying9 w #[{ key := .string ⟨#[46, 84, 83]⟩, val := .string ⟨#[46, 84, 69]⟩, born := 0 }, { key := .string ⟨#[46, 69, 81]⟩, val := .string ⟨#[46, 69, 78]⟩, born := 1 }, { key := .string ⟨#[46, 80, 83]⟩, val := .string ⟨#[46, 80, 69]⟩, born := 2 }, { key := .string ⟨#[46, 71, 49]⟩, val := .string ⟨#[46, 71, 50]⟩, born := 3 }] 4 ⟨#[46, 67, 72]⟩ (.string ⟨#[46, 67, 69]⟩) rfl
 have h5 := run_insert_new Tryz.underlying102 Tryz.underlying9 w #[{ key := .string ⟨#[46, 84, 83]⟩, val := .string ⟨#[46, 84, 69]⟩, born := 0 }, { key := .string ⟨#[46, 69, 81]⟩, val := .string ⟨#[46, 69, 78]⟩, born := 1 }, { key := .string ⟨#[46, 80, 83]⟩, val := .string ⟨#[46, 80, 69]⟩, born := 2 }, { key := .string ⟨#[46, 71, 49]⟩, val := .string ⟨#[46, 71, 50]⟩, born := 3 }, { key := .string ⟨#[46, 67, 72]⟩, val := .string ⟨#[46, 67, 69]⟩, born := 4 }] 5 ⟨#[46, 91]⟩ (.string ⟨#[46, 93]⟩) rfl
 simp only [List.push_toArray, List.cons_append, List.nil_append] at h0 h1 h2 h3 h4 h5
 go_enter Tryz.func94, Tryz.ntmps94
 go_wp2
 go_ret
 exact ⟨rfl, rfl⟩

end Go.Proofs.YtghlfhgmnhhmnaaGreatDoor.QTidy
