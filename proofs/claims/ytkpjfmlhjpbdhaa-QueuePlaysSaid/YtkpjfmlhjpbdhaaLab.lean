/- Contracts: labels. -/
import Derived.Test.YtkpjfmlhjpbdhaaCmp
namespace Go.Proofs.Ytkpjfmlhjpbdhaa
open Go.RowKit

theorem fields_any (c s t n : Int) (w : World) : Calls Try.prog 44 #[.agg #[.int .i64 c, .int .i64 s, .int .i64 t, .int .i64 n]] w fun e w' =>
    e = .returned (.agg #[.int .i64 c, .int .i64 s, .int .i64 t, .int .i64 n]) ∧ (w.alloc (.cells #[.int .i64 c, .int .i64 s, .int .i64 t, .int .i64 n] 33)).alloc (.cells #[.int .i64 c, .int .i64 s, .int .i64 t, .int .i64 n] 89) = w' := by
  go_enter Try.func44, Try.ntmps44
  go_wp2
  exact bodyPost_ret (v := .agg #[.int .i64 c, .int .i64 s, .int .i64 t, .int .i64 n]) (by simp [results, Try.results44, go_sem]) rfl ⟨rfl, rfl⟩

/-- the lexicographic comparison of two lists -/
def lexI : List Int → List Int → Int
  | [], [] => 0
  | [], _ :: _ => -1
  | _ :: _, [] => 1
  | a :: l, b :: m => if cmpI a b = 0 then lexI l m else cmpI a b

theorem lexI_gt (xs ys : List Int) (k : Nat) (h : k < xs.length) (h2 : ys.length ≤ k) : lexI (xs.drop k) (ys.drop k) = 1 := by
  rw [List.drop_eq_getElem_cons h, List.drop_eq_nil_of_le h2]; rfl
theorem lexI_lt (xs ys : List Int) (k : Nat) (h : xs.length ≤ k) (h2 : k < ys.length) : lexI (xs.drop k) (ys.drop k) = -1 := by
  rw [List.drop_eq_getElem_cons h2, List.drop_eq_nil_of_le h]; rfl
theorem lexI_eq (xs ys : List Int) (k : Nat) (h : xs.length ≤ k) (h2 : ys.length ≤ k) : lexI (xs.drop k) (ys.drop k) = 0 := by
  rw [List.drop_eq_nil_of_le h2, List.drop_eq_nil_of_le h]; rfl
theorem lexI_step (xs ys : List Int) (k : Nat) (h : k < xs.length) (h2 : k < ys.length) :
    lexI (xs.drop k) (ys.drop k) = if cmpI (xs.getD k 0) (ys.getD k 0) = 0 then lexI (xs.drop (k + 1)) (ys.drop (k + 1)) else cmpI (xs.getD k 0) (ys.getD k 0) := by
  rw [List.drop_eq_getElem_cons h, List.drop_eq_getElem_cons h2]
  simp only [lexI, List.getD_eq_getElem?_getD, List.getElem?_eq_getElem h, List.getElem?_eq_getElem h2, Option.getD_some]

set_option maxHeartbeats 1000000 in
/-- 'slices.Compare' at whole numbers. -/
theorem sliceCmp_any (A B oa ob : Nat) (xs ys : List Int) (ca cb : Nat) (w : World) (hn : xs.length < 4611686018427387904) (hm : ys.length < 4611686018427387904)
    (ha : ∀ j, j < xs.length → w.cell? ⟨A, oa + j, none⟩ = some (.int .i64 (xs.getD j 0)))
    (hb : ∀ j, j < ys.length → w.cell? ⟨B, ob + j, none⟩ = some (.int .i64 (ys.getD j 0))) :
    Calls Try.prog 73 #[.slice (some ⟨A, oa, none⟩) xs.length ca, .slice (some ⟨B, ob, none⟩) ys.length cb] w fun e w' =>
    e = .returned (.int .i64 (lexI xs ys)) ∧ w = w' := by
  have HA := Lib.hid ha; clear ha
  have HB := Lib.hid hb; clear hb
  generalize hxl : xs.length = n at *
  generalize hyl : ys.length = m at *
  have HX := Lib.hid hxl; clear hxl
  have HY := Lib.hid hyl; clear hyl
  go_enter Try.func73, Try.ntmps73
  go_wp2
  go_loop [11] (fun i => ∃ k : Nat, k ≤ n ∧ i = .int .i64 k ∧ Hid (lexI xs ys = lexI (xs.drop k) (ys.drop k))) (fun i => n - (intOf i).toNat)
  case atStart => exact ⟨0, Nat.zero_le _, rfl, Lib.hid rfl⟩
  case round =>
    obtain ⟨k, hk, rfl, HL⟩ := hrel
    by_cases h1 : k < n
    · have hca := HA.out k h1
      by_cases h2 : m ≤ k
      · go_wp2
        go_ret
        exact ⟨ret_int (by rw [HL.out, lexI_gt xs ys k (by rw [HX.out]; exact h1) (by rw [HY.out]; exact h2)]), rfl⟩
      · have hcb := HB.out k (by omega)
        have hs := lexI_step xs ys k (by rw [HX.out]; exact h1) (by rw [HY.out]; omega)
        have HS := Lib.hid hs; clear hs
        generalize xs.getD k 0 = x at *
        generalize ys.getD k 0 = y at *
        by_cases h3 : cmpI x y = 0
        · have h3' : (cmpI x y == 0) = true := by simp [h3]
          have H3 := Lib.hid h3; clear h3
          go_wp2_with (go_at_call 52; refine (cmp_any _ _ _).mono ?_; rintro e w' ⟨rfl, rfl⟩)
          go_round
          case rel => exact ⟨k + 1, by omega, by go_num, Lib.hid (by rw [HL.out, HS.out, if_pos H3.out])⟩
          case measure => simp [intOf]; omega
        · have h3' : (cmpI x y == 0) = false := by simp [h3]
          have H3 := Lib.hid h3; clear h3
          go_wp2_with (go_at_call 52; refine (cmp_any _ _ _).mono ?_; rintro e w' ⟨rfl, rfl⟩)
          go_ret
          exact ⟨ret_int (by rw [HL.out, HS.out, if_neg H3.out]), rfl⟩
    · by_cases h2 : n < m
      · go_wp2
        go_ret
        exact ⟨ret_int (by rw [HL.out, lexI_lt xs ys k (by rw [HX.out]; omega) (by rw [HY.out]; omega)]), rfl⟩
      · go_wp2
        go_ret
        exact ⟨ret_int (by rw [HL.out, lexI_eq xs ys k (by rw [HX.out]; omega) (by rw [HY.out]; omega)]), rfl⟩

theorem sliceCmp4 (A B : Nat) (a0 a1 a2 a3 b0 b1 b2 b3 : Int) (w : World)
    (ha0 : w.cell? ⟨A, 0, none⟩ = some (.int .i64 a0)) (ha1 : w.cell? ⟨A, 1, none⟩ = some (.int .i64 a1)) (ha2 : w.cell? ⟨A, 2, none⟩ = some (.int .i64 a2)) (ha3 : w.cell? ⟨A, 3, none⟩ = some (.int .i64 a3))
    (hb0 : w.cell? ⟨B, 0, none⟩ = some (.int .i64 b0)) (hb1 : w.cell? ⟨B, 1, none⟩ = some (.int .i64 b1)) (hb2 : w.cell? ⟨B, 2, none⟩ = some (.int .i64 b2)) (hb3 : w.cell? ⟨B, 3, none⟩ = some (.int .i64 b3)) :
    Calls Try.prog 73 #[.slice (some ⟨A, 0, none⟩) 4 4, .slice (some ⟨B, 0, none⟩) 4 4] w fun e w' =>
    e = .returned (.int .i64 (lexI [a0, a1, a2, a3] [b0, b1, b2, b3])) ∧ w' = w :=
  (sliceCmp_any A B 0 0 [a0, a1, a2, a3] [b0, b1, b2, b3] 4 4 w (by simp) (by simp)
    (fun j hj => match j, hj with | 0, _ => ha0 | 1, _ => ha1 | 2, _ => ha2 | 3, _ => ha3)
    (fun j hj => match j, hj with | 0, _ => hb0 | 1, _ => hb1 | 2, _ => hb2 | 3, _ => hb3)).mono fun _ _ ⟨he, hw⟩ => ⟨he, hw.symm⟩

end Go.Proofs.Ytkpjfmlhjpbdhaa
