/- Seat G: HeapNil: what the heap that is made first answers. -/
import Derived.Test.YtplngopjjpbbpaaHpNil1
import Derived.Maps.Own
import Derived.Maps.OwnOps
import Derived.Maps.OwnSet
import Derived.Lib.Hide
import Derived.Outline
namespace Go.Proofs.Ytplngopjjpbbpaa.Hp
open Go.RowKit Go.Proofs.Ytplngopjjpbbpaa.Mem Go.Maps
set_option linter.unusedVariables false
set_option maxRecDepth 100000
theorem new_c (w : World) : Calls Try.prog 9 #[.int .i64 9] w fun e w' => ∃ M : Value, e = .returned (.tuple #[.pointer (some ⟨w.heap.size + 1, 0, none⟩), .int .i64 0]) ∧ Blk w' (w.heap.size + 1) 71 [.slice none 0 0, .slice none 0 0, M, .slice none 0 0, .slice none 0 0, .int .i64 9, .int .i64 16] ∧ Below w.heap.size w w' := by
  have hmm := @run_makeMap Try.prog
  go_enter Try.func9, Try.ntmps9
  go_wp2
  go_ret2
  refine ⟨.map (some w.heap.size), rfl, ?_, ?_⟩
  · have h := Blk.new (w.alloc (.map #[] 0)) 71 [.slice none 0 0, .slice none 0 0, .map (some w.heap.size), .slice none 0 0, .slice none 0 0, .int .i64 9, .int .i64 16]
    simpa using h
  · exact ((Below.refl _ w).alloc (Nat.le_refl _) _).alloc (by simp) _
end Go.Proofs.Ytplngopjjpbbpaa.Hp
