/- Contracts: taking an entry out. -/
import Derived.Test.YtkpjfmlhjpbdhaaQdel
namespace Go.Proofs.Ytkpjfmlhjpbdhaa
open Go.RowKit Go.Lib Go.Sort

theorem take_no (base B : Nat) (es : List Ent) (room g : Int) (w : World) (hq : IsQ w base B es room) (hg : idxT g es 0 = -1) : Calls Try.prog 15 #[.pointer (some ⟨B, 0, none⟩), .int .i64 g] w fun e w' =>
    e = .returned (.tuple #[entVal ⟨0, 0, 0, 0, 0⟩, .int .i64 7]) ∧ Below w.heap.size w w' := by
  have hcon := fun W (hW : Below w.heap.size w W) => at_any base B es room g W (hq.below hW)
  rw [hg] at hcon
  clear hq
  have HC := Lib.hid hcon; clear hcon
  have HG := Lib.hid hg; clear hg
  go_enter Try.func15, Try.ntmps15
  go_wp2_with fail
  refine (HC.out _ ((Below.refl _ _).alloc (Nat.le_refl _) _)).mono ?_
  rintro e w' ⟨rfl, hE⟩
  obtain ⟨hc, hf⟩ := bcell hE
  have HE := Lib.hid hE; clear hE
  go_wp2
  have hb0 := ((Below.refl w.heap.size w).alloc (Nat.le_refl _) (.cells #[.int .i64 0, .int .i64 0, .int .i64 0, .int .i64 0, .int .i64 0] 35)).trans (HE.out.mono (by simp))
  exact bodyPost_ret (v := .tuple #[entVal ⟨0, 0, 0, 0, 0⟩, .int .i64 7]) (by simp [results, Try.results15, go_sem, hc]) rfl
    ⟨rfl, ((((hb0.setCell (Nat.le_refl _) _).setCell (Nat.le_refl _) _).setCell (Nat.le_refl _) _).setCell (Nat.le_refl _) _).setCell (Nat.le_refl _) _⟩

theorem take_nil (g : Int) (w : World) : Calls Try.prog 15 #[.pointer none, .int .i64 g] w fun e w' =>
    e = .returned (.tuple #[entVal ⟨0, 0, 0, 0, 0⟩, .int .i64 7]) ∧ Below w.heap.size w w' := by
  go_enter Try.func15, Try.ntmps15
  go_wp2_with fail
  refine (at_nil _ _).mono ?_
  rintro e w' ⟨rfl, rfl⟩
  go_wp2
  have hb0 := ((Below.refl w.heap.size w).alloc (Nat.le_refl _) (.cells #[.int .i64 0, .int .i64 0, .int .i64 0, .int .i64 0, .int .i64 0] 35))
  exact bodyPost_ret (v := .tuple #[entVal ⟨0, 0, 0, 0, 0⟩, .int .i64 7]) (by simp [results, Try.results15, go_sem]) rfl ⟨rfl, hb0⟩

set_option maxHeartbeats 1000000 in
theorem take_yes (base B : Nat) (es : List Ent) (room g : Int) (w : World) (k : Nat) (hk : k < es.length) (hq : IsQ w base B es room) (hg : idxT g es 0 = k) : Calls Try.prog 15 #[.pointer (some ⟨B, 0, none⟩), .int .i64 g] w fun e w' =>
    e = .returned (.tuple #[entVal es[k], .int .i64 0]) ∧ IsQ w' base B (es.eraseIdx k) room ∧ Chg base [35, 70] w w' := by
  have hcon := fun W (hW : Below w.heap.size w W) => at_any base B es room g W (hq.below hW)
  rw [hg] at hcon
  obtain ⟨v, hbB, hhB, hr⟩ := id hq
  obtain ⟨b, cap, rfl, hbb, hlt, hcap, hm, c0, c1, c2, c3, c4⟩ := row_at hr k hk
  have hB : w.cell? ⟨B, 0, none⟩ = some (.slice (some ⟨b, 0, none⟩) es.length cap) := cell_in hhB rfl
  have hBl := cell_lt hB
  obtain ⟨_, ⟨e', _⟩ | ⟨g', cap', cur, e', _, hh, _, _, hs, ht⟩⟩ := id hr
  · cases e'
  cases e'
  have hdel := fun W (hW : Below w.heap.size w W) => delete_any base b cap cur es k W hk hbb (below_cells hW hh) hcap hm hs ht
  have hne : B ≠ b := by rintro rfl; rw [hhB] at hh; cases hh
  have hFB : ∀ W, Below w.heap.size w W → W.frozen? ⟨B, 0, none⟩ = false := fun W hW => frozen_in (below_cells hW hhB)
  have HFB := Lib.hid hFB; clear hFB
  have hfin : ∀ W W2 W3, Below w.heap.size w W → W.grownBy W2 (some b) → IsRow W2 base (.slice (some ⟨b, 0, none⟩) (k + (es.length - (k + 1))) cap) (es.eraseIdx k) → W3 = W2.setCell ⟨B, 0, none⟩ (.slice (some ⟨b, 0, none⟩) (k + (es.length - (k + 1))) cap) →
      (∀ W4, W4.heap[B]? = W3.heap[B]? → W4.heap[b]? = W3.heap[b]? → IsQ W4 base B (es.eraseIdx k) room) ∧ Chg base [35, 70] w W3 := by
    rintro W W2 W3 h1 h2 h3 rfl
    have hhW := below_cells h1 hh
    have hBW := below_cells h1 hhB
    have hB2 : W2.heap[B]? = some (.cells #[.slice (some ⟨b, 0, none⟩) es.length cap, .int .i64 room] 70 (0, 0)) := by
      rw [h2.block B (Array.getElem?_eq_some_iff.1 hBW).1 (fun e => hne (Option.some.inj e))]; exact hBW
    have hS := Chg.setCell (base := base) (T := [35, 70]) (p := ⟨B, 0, none⟩) hB2 (by simp) hbB (.slice (some ⟨b, 0, none⟩) (k + (es.length - (k + 1))) cap)
    refine ⟨fun W4 k1 k2 => ⟨.slice (some ⟨b, 0, none⟩) (k + (es.length - (k + 1))) cap, hbB, ?_, ?_⟩, ((Chg.of_below h1).trans (Chg.grown h2 hhW (by simp) hbb)).trans hS⟩
    · rw [k1]
      simp only [World.setCell, Array.getElem?_modify, if_true, hB2, Option.map_some]
      simp
    · obtain ⟨q1, ⟨e, _⟩ | ⟨g, cp, cr, e, q2, q3, q4⟩⟩ := h3
      · cases e
      · have e1 : b = g := by injection e with e1 _ _; injection e1 with e2; injection e2
        subst e1
        refine ⟨q1, .inr ⟨_, cp, cr, e, q2, ?_, q4⟩⟩
        rw [k2, Below.heap_setCell _ _ _ _ (fun e => hne e.symm)]; exact q3
  clear hr hh hhB hs ht hq hg
  unfold maxLen at hm
  generalize hx : es[k] = x at *
  clear hx
  obtain ⟨xc, xs, xt, xn, xg⟩ := x
  simp only at c0 c1 c2 c3 c4
  generalize es.length = n at *
  generalize es.eraseIdx k = es' at *
  have HC := Lib.hid hcon; clear hcon
  have HD := Lib.hid hdel; clear hdel
  have HF := Lib.hid hfin; clear hfin
  have HN := Lib.hid hne; clear hne
  go_enter Try.func15, Try.ntmps15
  go_wp2_with fail
  refine (HC.out _ ((Below.refl _ _).alloc (Nat.le_refl _) _)).mono ?_
  rintro e w1 ⟨rfl, hE⟩
  obtain ⟨hc, hf⟩ := bcell hE
  have hz := hE.size
  simp at hz
  have z1 : b < w.heap.size + 1 := by omega
  have z2 : B < w.heap.size + 1 := by omega
  have z3 : b < w1.heap.size := by omega
  have z4 : B < w1.heap.size := by omega
  have hb1 := ((Below.refl w.heap.size w).alloc (Nat.le_refl _) (.cells #[.int .i64 0, .int .i64 0, .int .i64 0, .int .i64 0, .int .i64 0] 35)).trans (hE.mono (by simp))
  have HE := Lib.hid hE; clear hE
  have HB1 := Lib.hid hb1; clear hb1
  have y0 : ∀ i, i < 5 → w1.cell? ⟨w.heap.size, i, none⟩ = some (.int .i64 0) := by
    intro i hi
    rw [hc _ _ (by simp)]
    match i, hi with
    | 0, _ => simp
    | 1, _ => simp
    | 2, _ => simp
    | 3, _ => simp
    | 4, _ => simp
  have y1 : ∀ i, w1.frozen? ⟨w.heap.size, i, none⟩ = false := fun i => by rw [hf _ _ (by simp)]; exact frozen_in (heap_alloc_new _ _)
  have y2 : w1.frozen? ⟨B, 0, none⟩ = false := HFB.out _ HB1.out
  have Y0 := Lib.hid y0; clear y0
  have Y1 := Lib.hid y1; clear y1
  go_wp2_with fail
  refine (HD.out _ ((HB1.out).trans ((Below.refl _ _).alloc HB1.out.size _))).mono ?_
  rintro e w2 ⟨rfl, hrow, hgr⟩
  have q0 : w2.cell? ⟨B, 0, none⟩ = some (.slice (some ⟨b, 0, none⟩) n cap) := cell_grown hgr (cell_alloc (cell_below HB1.out hB)) (fun e => HN.out (Option.some.inj e))
  have q1 : w2.frozen? ⟨B, 0, none⟩ = false := fz_grown (j := 0) hgr (cell_alloc (cell_below HB1.out hB)) (fz_alloc (cell_below HB1.out hB) y2) (fun e => HN.out (Option.some.inj e))
  have nb1 : some w1.heap.size ≠ some b := fun e => by have := Option.some.inj e; omega
  have nb2 : some w.heap.size ≠ some b := fun e => by have := Option.some.inj e; omega
  have r0 : w2.cell? ⟨w1.heap.size, 0, none⟩ = some (.int .i64 xc) := cell_grown hgr (by simp) nb1
  have r1 : w2.cell? ⟨w1.heap.size, 1, none⟩ = some (.int .i64 xs) := cell_grown hgr (by simp) nb1
  have r2 : w2.cell? ⟨w1.heap.size, 2, none⟩ = some (.int .i64 xt) := cell_grown hgr (by simp) nb1
  have r3 : w2.cell? ⟨w1.heap.size, 3, none⟩ = some (.int .i64 xn) := cell_grown hgr (by simp) nb1
  have r4 : w2.cell? ⟨w1.heap.size, 4, none⟩ = some (.int .i64 xg) := cell_grown hgr (by simp) nb1
  have s0 : w2.cell? ⟨w.heap.size, 0, none⟩ = some (.int .i64 0) := cell_grown hgr (cell_alloc (Y0.out 0 (by omega))) nb2
  have s1 : w2.cell? ⟨w.heap.size, 1, none⟩ = some (.int .i64 0) := cell_grown hgr (cell_alloc (Y0.out 1 (by omega))) nb2
  have s2 : w2.cell? ⟨w.heap.size, 2, none⟩ = some (.int .i64 0) := cell_grown hgr (cell_alloc (Y0.out 2 (by omega))) nb2
  have s3 : w2.cell? ⟨w.heap.size, 3, none⟩ = some (.int .i64 0) := cell_grown hgr (cell_alloc (Y0.out 3 (by omega))) nb2
  have s4 : w2.cell? ⟨w.heap.size, 4, none⟩ = some (.int .i64 0) := cell_grown hgr (cell_alloc (Y0.out 4 (by omega))) nb2
  have f0 : w2.frozen? ⟨w.heap.size, 0, none⟩ = false := fz_grown (j := 0) hgr (cell_alloc (Y0.out 0 (by omega))) (fz_alloc (Y0.out 0 (by omega)) (Y1.out 0)) nb2
  have f1 : w2.frozen? ⟨w.heap.size, 1, none⟩ = false := fz_grown (j := 0) hgr (cell_alloc (Y0.out 0 (by omega))) (fz_alloc (Y0.out 0 (by omega)) (Y1.out 1)) nb2
  have f2 : w2.frozen? ⟨w.heap.size, 2, none⟩ = false := fz_grown (j := 0) hgr (cell_alloc (Y0.out 0 (by omega))) (fz_alloc (Y0.out 0 (by omega)) (Y1.out 2)) nb2
  have f3 : w2.frozen? ⟨w.heap.size, 3, none⟩ = false := fz_grown (j := 0) hgr (cell_alloc (Y0.out 0 (by omega))) (fz_alloc (Y0.out 0 (by omega)) (Y1.out 3)) nb2
  have f4 : w2.frozen? ⟨w.heap.size, 4, none⟩ = false := fz_grown (j := 0) hgr (cell_alloc (Y0.out 0 (by omega))) (fz_alloc (Y0.out 0 (by omega)) (Y1.out 4)) nb2
  have m1 : ¬ B = w1.heap.size := by omega
  have m2 : ¬ B = w.heap.size := by omega
  have m3 : ¬ w1.heap.size = w.heap.size := by omega
  have m4 : ¬ w.heap.size = w1.heap.size := by omega
  have m5 : ¬ w1.heap.size = B := by omega
  have m6 : ¬ w.heap.size = B := by omega
  have m7 : ¬ b = w.heap.size := by omega
  obtain ⟨g1, g2⟩ := HF.out _ w2 _ ((HB1.out).trans ((Below.refl _ _).alloc HB1.out.size _)) hgr hrow rfl
  have G1 := Lib.hid g1; clear g1
  have G2 := Lib.hid g2; clear g2
  clear hgr hrow nb1 nb2 hc hf c0 c1 c2 c3 c4 hB y2
  generalize hW : w.heap.size = X at *
  have HW := Lib.hid hW; clear hW
  go_wp2
  refine bodyPost_ret (v := .tuple #[entVal ⟨xc, xs, xt, xn, xg⟩, .int .i64 0]) (by simp [results, Try.results15, go_sem, *]) rfl ⟨rfl, G1.out _ ?_ ?_, ?_⟩
  · rw [Below.heap_setCell _ _ _ _ (by exact fun e => m6 e.symm), Below.heap_setCell _ _ _ _ (by exact fun e => m6 e.symm), Below.heap_setCell _ _ _ _ (by exact fun e => m6 e.symm), Below.heap_setCell _ _ _ _ (by exact fun e => m6 e.symm), Below.heap_setCell _ _ _ _ (by exact fun e => m6 e.symm)]
  · rw [Below.heap_setCell _ _ _ _ (by exact m7), Below.heap_setCell _ _ _ _ (by exact m7), Below.heap_setCell _ _ _ _ (by exact m7), Below.heap_setCell _ _ _ _ (by exact m7), Below.heap_setCell _ _ _ _ (by exact m7)]
  · have hX := HW.out
    exact ((((G2.out.set_new (by exact Nat.le_of_eq hX) _).set_new (by exact Nat.le_of_eq hX) _).set_new (by exact Nat.le_of_eq hX) _).set_new (by exact Nat.le_of_eq hX) _).set_new (by exact Nat.le_of_eq hX) _

end Go.Proofs.Ytkpjfmlhjpbdhaa
