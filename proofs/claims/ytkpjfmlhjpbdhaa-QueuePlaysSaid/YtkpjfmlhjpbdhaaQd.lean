/- Contracts: the first entry of a queue, and one by its tag. -/
import Derived.Test.YtkpjfmlhjpbdhaaQc
namespace Go.Proofs.Ytkpjfmlhjpbdhaa
open Go.RowKit Go.Lib Go.Sort

abbrev entVal (x : Ent) : Value := .agg #[.int .i64 x.c, .int .i64 x.s, .int .i64 x.t, .int .i64 x.n, .int .i64 x.g]

theorem row_at {w : World} {base : Nat} {v : Value} {es : List Ent} (h : IsRow w base v es) (k : Nat) (hk : k < es.length) :
    ∃ b cap, v = .slice (some ⟨b, 0, none⟩) es.length cap ∧ base ≤ b ∧ b < w.heap.size ∧ es.length ≤ cap ∧ cap ≤ maxLen ∧
      w.cell? ⟨b, k * 5, none⟩ = some (.int .i64 (es[k]).c) ∧ w.cell? ⟨b, k * 5 + 1, none⟩ = some (.int .i64 (es[k]).s) ∧ w.cell? ⟨b, k * 5 + 2, none⟩ = some (.int .i64 (es[k]).t) ∧ w.cell? ⟨b, k * 5 + 3, none⟩ = some (.int .i64 (es[k]).n) ∧ w.cell? ⟨b, k * 5 + 4, none⟩ = some (.int .i64 (es[k]).g) := by
  obtain ⟨_, ⟨rfl, hn⟩ | ⟨b, cap, cur, rfl, hb, hh, hcap, hm, hs, ht⟩⟩ := h
  · omega
  · have hc := row_cells (cap := cap) hh ht
    have he := encs_at es k hk
    have hg : es[k]! = es[k] := getElem!_pos es k hk
    rw [hg] at he
    refine ⟨b, cap, rfl, hb, (Array.getElem?_eq_some_iff.1 hh).1, hcap, hm, hc _ _ (he 0 _ rfl), hc _ _ (he 1 _ rfl), hc _ _ (he 2 _ rfl), hc _ _ (he 3 _ rfl), hc _ _ (he 4 _ rfl)⟩

theorem get_no (base B : Nat) (es : List Ent) (room g : Int) (w : World) (hq : IsQ w base B es room) (hg : idxT g es 0 = -1) : Calls Try.prog 21 #[.pointer (some ⟨B, 0, none⟩), .int .i64 g] w fun e w' =>
    e = .returned (.tuple #[entVal ⟨0, 0, 0, 0, 0⟩, .bool false]) ∧ Below w.heap.size w w' := by
  have hcon := fun W (hW : Below w.heap.size w W) => at_any base B es room g W (hq.below hW)
  rw [hg] at hcon
  clear hq
  have HC := Lib.hid hcon; clear hcon
  have HG := Lib.hid hg; clear hg
  go_enter Try.func21, Try.ntmps21
  go_wp2_with fail
  refine (HC.out _ ((Below.refl _ _).alloc (Nat.le_refl _) _)).mono ?_
  rintro e w' ⟨rfl, hE⟩
  obtain ⟨hc, hf⟩ := bcell hE
  have HE := Lib.hid hE; clear hE
  go_wp2
  have hb0 := ((Below.refl w.heap.size w).alloc (Nat.le_refl _) (.cells #[.int .i64 0, .int .i64 0, .int .i64 0, .int .i64 0, .int .i64 0] 35)).trans (HE.out.mono (by simp))
  exact bodyPost_ret (v := .tuple #[entVal ⟨0, 0, 0, 0, 0⟩, .bool false]) (by simp [results, Try.results21, go_sem, hc]) rfl
    ⟨rfl, ((((hb0.setCell (Nat.le_refl _) _).setCell (Nat.le_refl _) _).setCell (Nat.le_refl _) _).setCell (Nat.le_refl _) _).setCell (Nat.le_refl _) _⟩

theorem get_yes (base B : Nat) (es : List Ent) (room g : Int) (w : World) (k : Nat) (hk : k < es.length) (hq : IsQ w base B es room) (hg : idxT g es 0 = k) : Calls Try.prog 21 #[.pointer (some ⟨B, 0, none⟩), .int .i64 g] w fun e w' =>
    e = .returned (.tuple #[entVal es[k], .bool true]) ∧ Below w.heap.size w w' := by
  have hcon := fun W (hW : Below w.heap.size w W) => at_any base B es room g W (hq.below hW)
  rw [hg] at hcon
  obtain ⟨v, hb, hh, hr⟩ := hq
  obtain ⟨b, cap, rfl, hbb, hlt, hcap, hm, c0, c1, c2, c3, c4⟩ := row_at hr k hk
  have hB : w.cell? ⟨B, 0, none⟩ = some (.slice (some ⟨b, 0, none⟩) es.length cap) := cell_in hh rfl
  have hBl := cell_lt hB
  clear hh hr
  unfold maxLen at hm
  generalize es[k] = x at *
  obtain ⟨xc, xs, xt, xn, xg⟩ := x
  simp only at c0 c1 c2 c3 c4
  generalize es.length = n at *
  have HC := Lib.hid hcon; clear hcon
  have HG := Lib.hid hg; clear hg
  go_enter Try.func21, Try.ntmps21
  go_wp2_with fail
  refine (HC.out _ ((Below.refl _ _).alloc (Nat.le_refl _) _)).mono ?_
  rintro e w' ⟨rfl, hE⟩
  obtain ⟨hc, hf⟩ := bcell hE
  have hz := hE.size
  simp at hz
  have z1 : b < w.heap.size + 1 := by omega
  have z2 : B < w.heap.size + 1 := by omega
  have z3 : ¬ b = w.heap.size := by omega
  have z4 : ¬ B = w.heap.size := by omega
  have HE := Lib.hid hE; clear hE
  go_wp2
  have hb0 := ((Below.refl w.heap.size w).alloc (Nat.le_refl _) (.cells #[.int .i64 0, .int .i64 0, .int .i64 0, .int .i64 0, .int .i64 0] 35)).trans (HE.out.mono (by simp))
  exact bodyPost_ret (v := .tuple #[entVal ⟨xc, xs, xt, xn, xg⟩, .bool true]) (by simp [results, Try.results21, go_sem, hc]) rfl
    ⟨rfl, ((((hb0.setCell (Nat.le_refl _) _).setCell (Nat.le_refl _) _).setCell (Nat.le_refl _) _).setCell (Nat.le_refl _) _).setCell (Nat.le_refl _) _⟩

theorem head_no (base B : Nat) (room : Int) (w : World) (hq : IsQ w base B [] room) : Calls Try.prog 23 #[.pointer (some ⟨B, 0, none⟩)] w fun e w' =>
    e = .returned (.tuple #[entVal ⟨0, 0, 0, 0, 0⟩, .bool false]) ∧ Below w.heap.size w w' := by
  have hcon := fun W (hW : Below w.heap.size w W) => len_any base B [] room W (hq.below hW)
  simp only [List.length_nil] at hcon
  clear hq
  have HC := Lib.hid hcon; clear hcon
  go_enter Try.func23, Try.ntmps23
  go_wp2_with fail
  refine (HC.out _ ((Below.refl _ _).alloc (Nat.le_refl _) _)).mono ?_
  rintro e w' ⟨rfl, rfl⟩
  go_wp2
  have hb0 := ((Below.refl w.heap.size w).alloc (Nat.le_refl _) (.cells #[.int .i64 0, .int .i64 0, .int .i64 0, .int .i64 0, .int .i64 0] 35))
  exact bodyPost_ret (v := .tuple #[entVal ⟨0, 0, 0, 0, 0⟩, .bool false]) (by simp [results, Try.results23, go_sem]) rfl ⟨rfl, hb0⟩

theorem head_nil (w : World) : Calls Try.prog 23 #[.pointer none] w fun e w' =>
    e = .returned (.tuple #[entVal ⟨0, 0, 0, 0, 0⟩, .bool false]) ∧ Below w.heap.size w w' := by
  go_enter Try.func23, Try.ntmps23
  go_wp2_with fail
  refine (len_nil _).mono ?_
  rintro e w' ⟨rfl, rfl⟩
  go_wp2
  have hb0 := ((Below.refl w.heap.size w).alloc (Nat.le_refl _) (.cells #[.int .i64 0, .int .i64 0, .int .i64 0, .int .i64 0, .int .i64 0] 35))
  exact bodyPost_ret (v := .tuple #[entVal ⟨0, 0, 0, 0, 0⟩, .bool false]) (by simp [results, Try.results23, go_sem]) rfl ⟨rfl, hb0⟩

theorem head_yes (base B : Nat) (x : Ent) (l : List Ent) (room : Int) (w : World) (hq : IsQ w base B (x :: l) room) : Calls Try.prog 23 #[.pointer (some ⟨B, 0, none⟩)] w fun e w' =>
    e = .returned (.tuple #[entVal x, .bool true]) ∧ Below w.heap.size w w' := by
  have hcon := fun W (hW : Below w.heap.size w W) => len_any base B (x :: l) room W (hq.below hW)
  obtain ⟨v, hb, hh, hr⟩ := hq
  obtain ⟨b, cap, rfl, hbb, hlt, hcap, hm, c0, c1, c2, c3, c4⟩ := row_at hr 0 (by simp)
  have hB : w.cell? ⟨B, 0, none⟩ = some (.slice (some ⟨b, 0, none⟩) (x :: l).length cap) := cell_in hh rfl
  have hBl := cell_lt hB
  clear hh hr
  unfold maxLen at hm
  obtain ⟨xc, xs, xt, xn, xg⟩ := x
  simp only [List.getElem_cons_zero, Nat.zero_mul, Nat.zero_add, List.length_cons] at c0 c1 c2 c3 c4 hB hcon hcap
  generalize l.length = n at *
  have HC := Lib.hid hcon; clear hcon
  have z3 : ¬ b = w.heap.size := by omega
  have z4 : ¬ B = w.heap.size := by omega
  have z5 : ((n : Int) + 1 == 0) = false := by rw [beq_eq_false_iff_ne]; omega
  go_enter Try.func23, Try.ntmps23
  go_wp2_with fail
  refine (HC.out _ ((Below.refl _ _).alloc (Nat.le_refl _) _)).mono ?_
  rintro e w' ⟨rfl, rfl⟩
  go_wp2
  have hb0 := ((Below.refl w.heap.size w).alloc (Nat.le_refl _) (.cells #[.int .i64 xc, .int .i64 xs, .int .i64 xt, .int .i64 xn, .int .i64 xg] 35))
  exact bodyPost_ret (v := .tuple #[entVal ⟨xc, xs, xt, xn, xg⟩, .bool true]) (by simp [results, Try.results23, go_sem]) rfl ⟨rfl, hb0⟩

end Go.Proofs.Ytkpjfmlhjpbdhaa
