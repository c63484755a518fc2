/- Contracts: comparing numbers, labels, and entries of a queue. -/
import Derived.Test.YtkpjfmlhjpbdhaaProg
import Derived.Test.YtkpjfmlhjpbdhaaBase
import Derived.Outline
import Derived.RegionTactic
import Derived.Deep.QuietTactic
import Derived.BigQuiet
import Derived.Deep.DeepFit
import Derived.StillTailTactics
namespace Go.Proofs.Ytkpjfmlhjpbdhaa
open Go.RowKit

theorem isNaN_any (x : Int) (w : World) : Calls Try.prog 67 #[.int .i64 x] w fun e w' => e = .returned (.bool false) ∧ w = w' := by
  go_enter Try.func67, Try.ntmps67
  go_wp2
  go_ret
  exact ⟨by simp, rfl⟩

theorem cmp_any (x y : Int) (w : World) : Calls Try.prog 52 #[.int .i64 x, .int .i64 y] w fun e w' => e = .returned (.int .i64 (cmpI x y)) ∧ w = w' := by
  by_cases h1 : x < y
  · go_enter Try.func52, Try.ntmps52
    go_wp2_with (go_at_call 67; refine (isNaN_any _ _).mono ?_; rintro e w' ⟨rfl, rfl⟩)
    go_ret
    exact ⟨ret_int (by unfold cmpI; rw [if_pos (by omega)]), rfl⟩
  · by_cases h2 : y < x
    · go_enter Try.func52, Try.ntmps52
      go_wp2_with (go_at_call 67; refine (isNaN_any _ _).mono ?_; rintro e w' ⟨rfl, rfl⟩)
      go_ret
      exact ⟨ret_int (by unfold cmpI; rw [if_neg (by omega), if_pos (by omega)]), rfl⟩
    · go_enter Try.func52, Try.ntmps52
      go_wp2_with (go_at_call 67; refine (isNaN_any _ _).mono ?_; rintro e w' ⟨rfl, rfl⟩)
      go_ret
      exact ⟨ret_int (by unfold cmpI; rw [if_neg (by omega), if_neg (by omega)]), rfl⟩

end Go.Proofs.Ytkpjfmlhjpbdhaa
