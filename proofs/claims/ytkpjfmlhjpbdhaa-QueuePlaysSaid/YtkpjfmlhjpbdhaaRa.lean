/- Contracts: the reference's labels that can be, and which label stands ahead. -/
import Derived.Test.YtkpjfmlhjpbdhaaFull
namespace Go.Proofs.Ytkpjfmlhjpbdhaa
open Go.RowKit Go.Lib Go.Sort

set_option maxHeartbeats 2000000 in
theorem right23_any (c s t n : Int) (w : World) : Calls Try.prog 30 #[labV c s t n] w fun e w' =>
    e = .returned (.bool (lright c s t n)) ∧ Below w.heap.size w w' := by
  by_cases h1 : 1 ≤ c
  · by_cases h2 : c ≤ 3
    · by_cases h3 : 0 ≤ s
      · by_cases h4 : s ≤ 255
        · by_cases h5 : 0 ≤ t
          · by_cases h6 : t ≤ 2047
            · by_cases h7 : 0 ≤ n
              · by_cases h8 : n < 32
                · have hv : lright c s t n = true := by unfold lright; first | (apply decide_eq_true; omega) | (apply decide_eq_false; omega)
                  rw [hv]; clear hv
                  go_enter Try.func30, Try.ntmps30
                  go_wp2
                  go_ret
                  exact ⟨rfl, (Below.refl _ _).alloc (Nat.le_refl _) _⟩
                · have hv : lright c s t n = false := by unfold lright; first | (apply decide_eq_true; omega) | (apply decide_eq_false; omega)
                  rw [hv]; clear hv
                  go_enter Try.func30, Try.ntmps30
                  go_wp2
                  go_ret
                  exact ⟨rfl, (Below.refl _ _).alloc (Nat.le_refl _) _⟩
              · have hv : lright c s t n = false := by unfold lright; first | (apply decide_eq_true; omega) | (apply decide_eq_false; omega)
                rw [hv]; clear hv
                go_enter Try.func30, Try.ntmps30
                go_wp2
                go_ret
                exact ⟨rfl, (Below.refl _ _).alloc (Nat.le_refl _) _⟩
            · have hv : lright c s t n = false := by unfold lright; first | (apply decide_eq_true; omega) | (apply decide_eq_false; omega)
              rw [hv]; clear hv
              go_enter Try.func30, Try.ntmps30
              go_wp2
              go_ret
              exact ⟨rfl, (Below.refl _ _).alloc (Nat.le_refl _) _⟩
          · have hv : lright c s t n = false := by unfold lright; first | (apply decide_eq_true; omega) | (apply decide_eq_false; omega)
            rw [hv]; clear hv
            go_enter Try.func30, Try.ntmps30
            go_wp2
            go_ret
            exact ⟨rfl, (Below.refl _ _).alloc (Nat.le_refl _) _⟩
        · have hv : lright c s t n = false := by unfold lright; first | (apply decide_eq_true; omega) | (apply decide_eq_false; omega)
          rw [hv]; clear hv
          go_enter Try.func30, Try.ntmps30
          go_wp2
          go_ret
          exact ⟨rfl, (Below.refl _ _).alloc (Nat.le_refl _) _⟩
      · have hv : lright c s t n = false := by unfold lright; first | (apply decide_eq_true; omega) | (apply decide_eq_false; omega)
        rw [hv]; clear hv
        go_enter Try.func30, Try.ntmps30
        go_wp2
        go_ret
        exact ⟨rfl, (Below.refl _ _).alloc (Nat.le_refl _) _⟩
    · have hv : lright c s t n = false := by unfold lright; first | (apply decide_eq_true; omega) | (apply decide_eq_false; omega)
      rw [hv]; clear hv
      go_enter Try.func30, Try.ntmps30
      go_wp2
      go_ret
      exact ⟨rfl, (Below.refl _ _).alloc (Nat.le_refl _) _⟩
  · have hv : lright c s t n = false := by unfold lright; first | (apply decide_eq_true; omega) | (apply decide_eq_false; omega)
    rw [hv]; clear hv
    go_enter Try.func30, Try.ntmps30
    go_wp2
    go_ret
    exact ⟨rfl, (Below.refl _ _).alloc (Nat.le_refl _) _⟩

open Classical in
theorem before23_any (a0 a1 a2 a3 b0 b1 b2 b3 : Int) (w : World) : Calls Try.prog 53 #[labV a0 a1 a2 a3, labV b0 b1 b2 b3] w fun e w' =>
    e = .returned (.bool (decide (ltL a0 a1 a2 a3 b0 b1 b2 b3))) ∧ Below w.heap.size w w' := by
  rcases (show (a0 = b0 ∧ a1 = b1 ∧ a2 = b2) ∨ (a0 = b0 ∧ a1 = b1 ∧ ¬ a2 = b2) ∨ (a0 = b0 ∧ ¬ a1 = b1) ∨ ¬ a0 = b0 by omega) with ⟨h0, h1, h2⟩ | ⟨h0, h1, h2⟩ | ⟨h0, h1⟩ | h0
  · have k0 : (a0 == b0) = true := by simp [h0]
    have k1 : (a1 == b1) = true := by simp [h1]
    have k2 : (a2 == b2) = true := by simp [h2]
    go_enter Try.func53, Try.ntmps53
    go_wp2
    go_ret
    exact ⟨ret_bool (by rw [decide_eq_decide]; unfold ltL; omega), ((Below.refl _ _).alloc (Nat.le_refl _) _).alloc (by simp) _⟩
  · have k0 : (a0 == b0) = true := by simp [h0]
    have k1 : (a1 == b1) = true := by simp [h1]
    have k2 : (a2 == b2) = false := by simp [h2]
    go_enter Try.func53, Try.ntmps53
    go_wp2
    go_ret
    exact ⟨ret_bool (by rw [decide_eq_decide]; unfold ltL; omega), ((Below.refl _ _).alloc (Nat.le_refl _) _).alloc (by simp) _⟩
  · have k0 : (a0 == b0) = true := by simp [h0]
    have k1 : (a1 == b1) = false := by simp [h1]
    go_enter Try.func53, Try.ntmps53
    go_wp2
    go_ret
    exact ⟨ret_bool (by rw [decide_eq_decide]; unfold ltL; omega), ((Below.refl _ _).alloc (Nat.le_refl _) _).alloc (by simp) _⟩
  · have k0 : (a0 == b0) = false := by simp [h0]
    go_enter Try.func53, Try.ntmps53
    go_wp2
    go_ret
    exact ⟨ret_bool (by rw [decide_eq_decide]; unfold ltL; omega), ((Below.refl _ _).alloc (Nat.le_refl _) _).alloc (by simp) _⟩

theorem plain_any (x : Ent) (w : World) : Calls Try.prog 11 #[entVal x] w fun e w' => e = .returned (entVal x) ∧ Below w.heap.size w w' := by
  go_enter Try.func11, Try.ntmps11
  go_wp2
  exact bodyPost_ret (v := entVal x) (by simp [results, Try.results11, go_sem]) rfl ⟨rfl, ((Below.refl _ _).alloc (Nat.le_refl _) _).alloc (by simp) _⟩

end Go.Proofs.Ytkpjfmlhjpbdhaa
