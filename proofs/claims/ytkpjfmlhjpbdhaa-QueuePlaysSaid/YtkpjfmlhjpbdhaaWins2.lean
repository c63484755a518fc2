/- Contracts: who of two identifiers of 29 bits wins the bus. -/
import Derived.Test.YtkpjfmlhjpbdhaaWins
namespace Go.Proofs.Ytkpjfmlhjpbdhaa
open Go.RowKit
attribute [local go_sem ↓] Go.wp_at_zero Go.wp_at_succ

set_option maxHeartbeats 1000000 in
theorem rwins_ext (a b : Int) (w : World) (ha : 0 ≤ a) (ha2 : a < 536870912) (hb : 0 ≤ b) (hb2 : b < 536870912) (hab : b ≤ a) : Calls Try.prog 25 #[idV true a, .bool false, idV true b, .bool false] w fun e w' =>
    e = .returned (.bool false) ∧ Below w.heap.size w w' := by
  have hk := key_mono a b ha ha2 hb hb2 hab
  have r1 := fun W => rright_ext a W ha2
  have r2 := fun W => rright_ext b W hb2
  have k1 := fun W => rkey_ext a W ha ha2
  have k2 := fun W => rkey_ext b W hb hb2
  generalize numL (keyBits a) = x at *
  generalize numL (keyBits b) = y at *
  have hd : decide (x < y) = false := by simp; omega
  have R1 := fun W => Lib.hid (r1 W)
  have R2 := fun W => Lib.hid (r2 W)
  have K1 := fun W => Lib.hid (k1 W)
  have K2 := fun W => Lib.hid (k2 W)
  clear r1 r2 k1 k2 hk
  go_enter Try.func25, Try.ntmps25
  go_wp2
  generalize hW : World.alloc _ _ = W0
  have hx : Below w.heap.size w W0 := by rw [← hW]; exact ((Below.refl _ _).alloc (Nat.le_refl _) _).alloc (by simp) _
  have c0 : W0.cell? ⟨w.heap.size, 0, none⟩ = some (.bool true) := by rw [← hW]; simp [go_sem]
  have c1 : W0.cell? ⟨w.heap.size, 1, none⟩ = some (.int .u32 a) := by rw [← hW]; simp [go_sem]
  have d0 : W0.cell? ⟨w.heap.size + 1, 0, none⟩ = some (.bool true) := by rw [← hW]; simp [go_sem]
  have d1 : W0.cell? ⟨w.heap.size + 1, 1, none⟩ = some (.int .u32 b) := by rw [← hW]; simp [go_sem]
  clear hW
  have HX := Lib.hid hx; clear hx
  generalize hA : w.heap.size = A at c0 c1 d0 d1
  have HA := Lib.hid hA; clear hA
  generalize hB : A + 1 = B at d0 d1
  have HB := Lib.hid hB; clear hB
  go_region_held3 (fun w' => w'.cell? ⟨A, 0, none⟩ = some (.bool true) ∧ w'.cell? ⟨A, 1, none⟩ = some (.int .u32 a) ∧ w'.cell? ⟨B, 0, none⟩ = some (.bool true) ∧ w'.cell? ⟨B, 1, none⟩ = some (.int .u32 b))
    ((repeat' apply And.intro) <;> (repeat (first | with_reducible assumption | with_reducible refine cell_below (by assumption) ?_ | with_reducible refine cell_alloc ?_ | with_reducible refine cell_drewN ?_ | with_reducible refine cell_drew ?_)))
    (first
      | (go_at_call_of 38 (Value.agg #[Value.bool true, Value.int IntKind.u32 a]); refine (R1 _).out.mono ?_; rintro e v1 ⟨rfl, hE1⟩)
      | (go_at_call_of 38 (Value.agg #[Value.bool true, Value.int IntKind.u32 b]); refine (R2 _).out.mono ?_; rintro e v2 ⟨rfl, hE2⟩)
      | (go_at_call_of 39 (Value.agg #[Value.bool true, Value.int IntKind.u32 a]); refine (K1 _).out.mono ?_; rintro e v3 ⟨rfl, hE3⟩)
      | (go_at_call_of 39 (Value.agg #[Value.bool true, Value.int IntKind.u32 b]); refine (K2 _).out.mono ?_; rintro e v4 ⟨rfl, hE4⟩))
  go_wp2
  go_ret
  have t0 := HX.out
  have t1 := t0.drew.trans (hE1.mono t0.size)
  have t2 := t1.trans (hE2.mono t1.size)
  have t3 := t2.trans (hE3.mono t2.size)
  exact ⟨rfl, t3.trans (hE4.mono t3.size)⟩

end Go.Proofs.Ytkpjfmlhjpbdhaa
