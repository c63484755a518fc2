/- Contracts: which of two labels is sent ahead. -/
import Derived.Test.YtkpjfmlhjpbdhaaLab
import Derived.Deep.RegionHeld3
import Derived.Deep.DrawnRows
import Derived.Deep.DeepCutAuto
import Derived.Deep.CutBlock
namespace Go.Proofs.Ytkpjfmlhjpbdhaa
open Go.RowKit
attribute [local go_sem ↓] Go.wp_at_zero Go.wp_at_succ

set_option maxHeartbeats 1000000 in
theorem ccompare_any (a0 a1 a2 a3 b0 b1 b2 b3 : Int) (w : World) : Calls Try.prog 66 #[.agg #[.int .i64 a0, .int .i64 a1, .int .i64 a2, .int .i64 a3], .agg #[.int .i64 b0, .int .i64 b1, .int .i64 b2, .int .i64 b3]] w fun e w' =>
    e = .returned (.int .i64 (lexI [a0, a1, a2, a3] [b0, b1, b2, b3])) ∧ Ext w w' := by
  go_enter Try.func66, Try.ntmps66
  go_upto_region 1 with fail
  generalize hW : World.alloc _ _ = W0
  have hx : Ext w W0 := by rw [← hW]; exact ((Ext.refl _).alloc _).alloc _
  have c0 : W0.cell? ⟨w.heap.size, 0, none⟩ = some (.int .i64 a0) := by rw [← hW]; simp [go_sem]
  have c1 : W0.cell? ⟨w.heap.size, 1, none⟩ = some (.int .i64 a1) := by rw [← hW]; simp [go_sem]
  have c2 : W0.cell? ⟨w.heap.size, 2, none⟩ = some (.int .i64 a2) := by rw [← hW]; simp [go_sem]
  have c3 : W0.cell? ⟨w.heap.size, 3, none⟩ = some (.int .i64 a3) := by rw [← hW]; simp [go_sem]
  have d0 : W0.cell? ⟨w.heap.size + 1, 0, none⟩ = some (.int .i64 b0) := by rw [← hW]; simp [go_sem]
  have d1 : W0.cell? ⟨w.heap.size + 1, 1, none⟩ = some (.int .i64 b1) := by rw [← hW]; simp [go_sem]
  have d2 : W0.cell? ⟨w.heap.size + 1, 2, none⟩ = some (.int .i64 b2) := by rw [← hW]; simp [go_sem]
  have d3 : W0.cell? ⟨w.heap.size + 1, 3, none⟩ = some (.int .i64 b3) := by rw [← hW]; simp [go_sem]
  clear hW
  have HX := Lib.hid hx; clear hx
  generalize hA : w.heap.size = A at c0 c1 c2 c3 d0 d1 d2 d3
  generalize hB : A + 1 = B at d0 d1 d2 d3
  clear hA hB
  go_cut [5, 6] (fun s5 s6 wx => ∃ X Y : Nat, s5 = .pointer (some ⟨X, 0, none⟩) ∧ s6 = .pointer (some ⟨Y, 0, none⟩) ∧ Ext w wx ∧
    wx.cell? ⟨X, 0, none⟩ = some (.int .i64 a0) ∧ wx.cell? ⟨X, 1, none⟩ = some (.int .i64 a1) ∧ wx.cell? ⟨X, 2, none⟩ = some (.int .i64 a2) ∧ wx.cell? ⟨X, 3, none⟩ = some (.int .i64 a3) ∧
    wx.cell? ⟨Y, 0, none⟩ = some (.int .i64 b0) ∧ wx.cell? ⟨Y, 1, none⟩ = some (.int .i64 b1) ∧ wx.cell? ⟨Y, 2, none⟩ = some (.int .i64 b2) ∧ wx.cell? ⟨Y, 3, none⟩ = some (.int .i64 b3))
  case first =>
    go_region_held3 (fun w' => w'.cell? ⟨A, 0, none⟩ = some (.int .i64 a0) ∧ w'.cell? ⟨A, 1, none⟩ = some (.int .i64 a1) ∧ w'.cell? ⟨A, 2, none⟩ = some (.int .i64 a2) ∧ w'.cell? ⟨A, 3, none⟩ = some (.int .i64 a3) ∧
       w'.cell? ⟨B, 0, none⟩ = some (.int .i64 b0) ∧ w'.cell? ⟨B, 1, none⟩ = some (.int .i64 b1) ∧ w'.cell? ⟨B, 2, none⟩ = some (.int .i64 b2) ∧ w'.cell? ⟨B, 3, none⟩ = some (.int .i64 b3)) ((repeat' apply And.intro) <;> (repeat (first | with_reducible assumption | with_reducible refine cell_alloc ?_ | with_reducible refine cell_drewN ?_ | with_reducible refine cell_drew ?_ | with_reducible refine cell_set (by simp <;> omega) ?_)))
      ((go_at_call 44; refine (fields_any _ _ _ _ _).mono ?_; rintro e w1 ⟨rfl, rfl⟩))
    all_goals
      go_wp2_with fail
      go_meet
      refine ⟨_, _, rfl, rfl, ?_, ?_, ?_, ?_, ?_, ?_, ?_, ?_, ?_⟩
      · repeat (first | exact HX.out | refine Ext.drewN ?_ _ | refine Ext.drew ?_ | refine Ext.alloc ?_ _)
      all_goals (simp [go_sem]; done)
  case rest =>
    obtain ⟨X, Y, rfl, rfl, hE, x0, x1, x2, x3, y0, y1, y2, y3⟩ := hcut
    have HE := Lib.hid hE; clear hE
    go_wp2
    go_region_with (go_at_call 73; refine (sliceCmp4 _ _ a0 a1 a2 a3 b0 b1 b2 b3 _ (by exact x0) (by exact x1) (by exact x2) (by exact x3) (by exact y0) (by exact y1) (by exact y2) (by exact y3)).mono ?_; rintro e w' ⟨rfl, rfl⟩)
    all_goals
      go_wp2
      go_ret
      refine ⟨rfl, ?_⟩
      repeat (first | exact HE.out | refine Ext.drewN ?_ _ | refine Ext.drew ?_)

end Go.Proofs.Ytkpjfmlhjpbdhaa
