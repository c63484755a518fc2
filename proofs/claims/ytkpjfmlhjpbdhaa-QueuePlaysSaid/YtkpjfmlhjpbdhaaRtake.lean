/- Contract: the reference takes an entry out. -/
import Derived.Test.YtkpjfmlhjpbdhaaRlay
namespace Go.Proofs.Ytkpjfmlhjpbdhaa
open Go.RowKit Go.Lib Go.Sort
attribute [local go_sem ↓] Go.wp_at_zero Go.wp_at_succ

theorem encs_drop (es : List Ent) (k : Nat) : encs (es.drop k) = (encs es).drop (k * 5) := by
  induction es generalizing k with
  | nil => simp [encs]
  | cons x l ih =>
    cases k with
    | zero => simp [encs]
    | succ k =>
      have := ih k
      simp only [encs, List.drop_succ_cons, List.flatMap_cons] at this ⊢
      rw [this, List.drop_append]
      have h5 : (Ent.enc x).length = 5 := rfl
      have e1 : List.drop ((k + 1) * 5) (Ent.enc x) = [] := List.drop_of_length_le (by rw [h5]; omega)
      rw [e1, h5, show (k + 1) * 5 - 5 = k * 5 by omega, List.nil_append]

theorem encs_one (es : List Ent) : ∀ u ∈ encs es, u.oneCell' = true := by
  intro u hu
  obtain ⟨x, _, hx⟩ := List.mem_flatMap.1 hu
  simp [Ent.enc] at hx
  rcases hx with rfl | rfl | rfl | rfl | rfl <;> rfl

/-- a queue of the reference whose row lies from a block on -/
def IsRN (w : World) (base R : Nat) (es : List Ent) (room : Int) : Prop :=
  ∃ v, w.heap[R]? = some (.cells #[v, .int .i64 room] 73 (0, 0)) ∧ w.ownsRow base 40 5 v es.length (encs es)

theorem IsRN.isR {w : World} {base R : Nat} {es : List Ent} {room : Int} (h : IsRN w base R es room) : IsR w R es room := by
  obtain ⟨v, hh, hr⟩ := h
  exact ⟨v, hh, row_mono hr (Nat.zero_le _)⟩

theorem IsR.set_high {w W : World} {R X : Nat} {l : List Ent} {u v : Value} {room : Int} {base : Nat} (hh : w.heap[R]? = some (.cells #[u, .int .i64 room] 73 (0, 0))) (hb : Below w.heap.size w W)
    (hr : W.ownsRow base 40 5 v l.length (encs l)) (hX : w.heap.size ≤ X) (hbase : X < base) (us : List (Nat × Value)) :
    IsRN (us.foldl (fun W p => W.setCell ⟨X, p.1, none⟩ p.2) (W.setCell ⟨R, 0, none⟩ v)) w.heap.size R l room ∧ Only R w (us.foldl (fun W p => W.setCell ⟨X, p.1, none⟩ p.2) (W.setCell ⟨R, 0, none⟩ v)) := by
  have hR := (Array.getElem?_eq_some_iff.1 hh).1
  have hall : ∀ (us : List (Nat × Value)) (V : World) (k : Nat), k ≠ X → (us.foldl (fun W p => W.setCell ⟨X, p.1, none⟩ p.2) V).heap[k]? = V.heap[k]? := by
    intro us
    induction us with
    | nil => intro V k _; rfl
    | cons p us ih => intro V k hk; rw [List.foldl_cons, ih _ k hk, Below.heap_setCell _ _ _ _ hk]
  obtain ⟨h1, h2⟩ := lay_end hh hb (row_mono hr (Nat.le_trans (Nat.succ_le_succ hX) hbase))
  have hset : ∀ (us : List (Nat × Value)) (V : World), Only R w V → Only R w (us.foldl (fun W p => W.setCell ⟨X, p.1, none⟩ p.2) V) := by
    intro us
    induction us with
    | nil => intro V h; exact h
    | cons p us ih => intro V h; exact ih _ (h.set_new (p := ⟨X, p.1, none⟩) hX _)
  refine ⟨?_, hset us _ h2⟩
  refine ⟨v, ?_, ?_⟩
  · rw [hall us _ R (by omega)]
    simp only [World.setCell, Array.getElem?_modify, if_true, below_cells hb hh, Option.map_some]
    simp
  · obtain ⟨q1, q2 | ⟨g, cap, cur, hv, hg, hh', hrest⟩⟩ := hr
    · exact ⟨q1, .inl q2⟩
    · refine ⟨q1, .inr ⟨g, cap, cur, hv, by omega, ?_, hrest⟩⟩
      rw [hall us _ g (by omega), Below.heap_setCell _ _ _ _ (by exact fun e => by have : g = R := e; omega)]; exact hh'

theorem rtake_no (R : Nat) (es : List Ent) (room g : Int) (w : World) (hq : IsR w R es room) (hg : idxT g es 0 = -1) : Calls Try.prog 16 #[.pointer (some ⟨R, 0, none⟩), .int .i64 g] w fun e w' =>
    e = .returned (.tuple #[entVal ⟨0, 0, 0, 0, 0⟩, .int .i64 7]) ∧ Below w.heap.size w w' := by
  have hcon := fun W (hW : Below w.heap.size w W) => rfind_any R es room g W (hq.below hW)
  rw [hg] at hcon
  clear hq
  have HC := Lib.hid hcon; clear hcon
  have HG := Lib.hid hg; clear hg
  go_enter Try.func16, Try.ntmps16
  go_wp2_with fail
  refine (HC.out _ ((Below.refl _ _).alloc (Nat.le_refl _) _)).mono ?_
  rintro e w' ⟨rfl, hE⟩
  obtain ⟨hc, hf⟩ := bcell hE
  have HE := Lib.hid hE; clear hE
  go_wp2
  have hb0 := ((Below.refl w.heap.size w).alloc (Nat.le_refl _) (.cells #[.int .i64 0, .int .i64 0, .int .i64 0, .int .i64 0, .int .i64 0] 40)).trans (HE.out.mono (by simp))
  exact bodyPost_ret (v := .tuple #[entVal ⟨0, 0, 0, 0, 0⟩, .int .i64 7]) (by simp [results, Try.results16, go_sem, hc]) rfl
    ⟨rfl, ((((hb0.setCell (Nat.le_refl _) _).setCell (Nat.le_refl _) _).setCell (Nat.le_refl _) _).setCell (Nat.le_refl _) _).setCell (Nat.le_refl _) _⟩

set_option maxHeartbeats 2000000 in
set_option maxRecDepth 100000 in
theorem rtake_yes (R : Nat) (es : List Ent) (room g : Int) (k : Nat) (w : World) (hk : k < es.length) (hn : es.length < 1000000) (hq : IsR w R es room) (hg : idxT g es 0 = k) : Calls Try.prog 16 #[.pointer (some ⟨R, 0, none⟩), .int .i64 g] w fun e w' =>
    e = .returned (.tuple #[entVal es[k], .int .i64 0]) ∧ IsRN w' w.heap.size R (es.eraseIdx k) room ∧ Only R w w' := by
  obtain ⟨i0, hi', hz0, hz1, hz2⟩ := info_parts infoR
  have hcon := fun W (hW : Below w.heap.size w W) => rfind_any R es room g W (hq.below hW)
  rw [hg] at hcon
  obtain ⟨v0, hh, hr⟩ := id hq
  obtain ⟨b, cap, rfl, hlt, hcap, hm, c0, c1, c2, c3, c4⟩ := rrow_at hr k hk
  unfold maxLen at hm
  have hB : w.cell? ⟨R, 0, none⟩ = some (.slice (some ⟨b, 0, none⟩) es.length cap) := cell_in hh rfl
  have hBl := cell_lt hB
  have HH := Lib.hid (And.intro hh hr); clear hh hr hq
  generalize hx : es[k] = x at *
  obtain ⟨xc, xs, xt, xn, xg⟩ := x
  simp only at c0 c1 c2 c3 c4
  have HX := Lib.hid hx; clear hx
  have HC := Lib.hid hcon; clear hcon
  have HG := Lib.hid hg; clear hg
  have k0 : (0 : Int) ≤ (k : Int) := by omega
  have k1 : (k : Int) < (es.length : Int) := by omega
  go_enter Try.func16, Try.ntmps16
  go_wp2_with fail
  refine (HC.out _ ((Below.refl _ _).alloc (Nat.le_refl _) _)).mono ?_
  rintro e w1 ⟨rfl, hE⟩
  obtain ⟨hc, hf⟩ := bcell hE
  have hz := hE.size
  simp at hz
  have z1 : b < w1.heap.size := by omega
  have z2 : R < w1.heap.size := by omega
  have z3 : ¬ b = w.heap.size := by omega
  have z4 : ¬ R = w.heap.size := by omega
  have hb1 := ((Below.refl w.heap.size w).alloc (Nat.le_refl _) (.cells #[.int .i64 0, .int .i64 0, .int .i64 0, .int .i64 0, .int .i64 0] 40)).trans (hE.mono (by simp))
  have d0 := cell_below hb1 c0
  have d1 := cell_below hb1 c1
  have d2 := cell_below hb1 c2
  have d3 := cell_below hb1 c3
  have d4 := cell_below hb1 c4
  have hB1 := cell_below hb1 hB
  have HB1 := Lib.hid hb1; clear hb1
  have HCC := Lib.hid (And.intro hc hf); clear hc hf hE
  have k2 : (k : Int) ≤ (cap : Int) := by omega
  have hnews : ∀ W, Below w.heap.size w W → ∀ j u, (encs es)[j]? = some u → W.cell? ⟨b, j, none⟩ = some u := by
    intro W hW j u hu
    obtain ⟨_, ⟨e, h0⟩ | ⟨g', cap', cur, e, _, hg, _, _, _, ht⟩⟩ := HH.out.2
    · cases e
    · cases e
      exact cell_below hW (rrow_cells hg ht j u hu)
  have htn : ∀ j u, (encs (es.take k))[j]? = some u → (w1.alloc (.cells (cellsE xc xs xt xn xg) 40 (0, 0))).cell? ((⟨b, 0, none⟩ : Addr).add j) = some u := by
    intro j u hu
    rw [Addr.add_lit]
    rw [← encs_take es k (by omega), List.getElem?_take] at hu
    split at hu
    · exact cell_alloc (by rw [Nat.zero_add]; exact hnews w1 HB1.out j u hu)
    · cases hu
  have HTN := Lib.hid htn; clear htn
  have HNW := Lib.hid hnews; clear hnews
  have hzc : ∀ i, i < 5 → w1.cell? ⟨w.heap.size, i, none⟩ = some (.int .i64 0) := by
    intro i hi
    rw [HCC.out.1 _ _ (by simp)]
    match i, hi with
    | 0, _ => simp
    | 1, _ => simp
    | 2, _ => simp
    | 3, _ => simp
    | 4, _ => simp
  have HZC := Lib.hid hzc; clear hzc
  have hfz : ∀ W, Below (w1.alloc (.cells (cellsE xc xs xt xn xg) 40 (0, 0))).heap.size (w1.alloc (.cells (cellsE xc xs xt xn xg) 40 (0, 0))) W → ∀ i, W.frozen? ⟨w.heap.size, i, none⟩ = false := by
    intro W hW i
    rw [(bcell hW).2 _ _ (by simp; omega)]
    refine fz_alloc (HZC.out 0 (by decide)) ?_
    rw [HCC.out.2 _ _ (by simp)]
    exact frozen_in (heap_alloc_new _ _)
  have HFZ := Lib.hid hfz; clear hfz
  by_cases hck : cap = k + 1
  · have hel : es.length - (k + 1) = 0 := by omega
    go_wp2_with (first
      | (at_builtin; refine wpList_append_own _ rfl _ _ 71 rfl (w1.heap.size + 1) 40 i0 (.agg #[.int .i64 0, .int .i64 0, .int .i64 0, .int .i64 0, .int .i64 0]) 5 40 Try.underlying71 hi' hz0 hz1 hz2 rfl (by decide) (.slice none 0 0) 0 [] rfl (World.ownsRow_nil _ _ _ _) ⟨b, 0, none⟩ k _ (encs (es.take k)) (by rfl) (by rw [encs_length, List.length_take]; omega) (HTN.out) (encs_one _) (by unfold maxLen; omega) (by omega) (by simp) ?_; intro v2 w2 hown2 hgrow2 _; rw [Nat.zero_add, List.nil_append] at hown2; obtain ⟨av2, cv2, rfl⟩ := own_form hown2; have q2 := (HB1.out.alloc HB1.out.size (.cells (cellsE xc xs xt xn xg) 40 (0, 0))).grown hgrow2 (by have := HB1.out.size; simp; omega) (fun j e => by cases e); have hB2 := cell_below q2 hB; have HQ2 := Lib.hid q2; clear q2; have p2 : Below (w1.alloc (.cells (cellsE xc xs xt xn xg) 40 (0, 0))).heap.size (w1.alloc (.cells (cellsE xc xs xt xn xg) 40 (0, 0))) w2 := (Below.refl _ _).grown hgrow2 (Nat.le_refl _) (fun j e => by cases e); have HP2 := Lib.hid p2; clear p2; have HZ2 := Lib.hid (show w1.heap.size + 1 ≤ w2.heap.size by have := hgrow2.size; simpa using this); have HO2 := Lib.hid hown2; clear hown2)
      | (at_builtin; refine wpList_append_own _ rfl _ _ 71 rfl (w1.heap.size + 1) 40 i0 (.agg #[.int .i64 0, .int .i64 0, .int .i64 0, .int .i64 0, .int .i64 0]) 5 40 Try.underlying71 hi' hz0 hz1 hz2 rfl (by decide) _ k (encs (es.take k)) (by rfl) HO2.out ⟨b, 0, none⟩ 0 _ ([]) (by rfl) (by rfl) (by intro j u hu; cases hu) (by intro u hu; cases hu) (by unfold maxLen; omega) (by omega) (by have := HZ2.out; omega) ?_; intro v3 w3 hown3 hgrow3 _; obtain ⟨av3, cv3, rfl⟩ := own_form hown3; have q3 := HQ2.out.grown hgrow3 HQ2.out.size (fun j e => by have := (HO2.out.lt j e).1; omega); have hB3 := cell_below q3 hB; have hf3 : w3.frozen? ⟨R, 0, none⟩ = false := frozen_in (below_cells q3 HH.out.1); have p3 := HP2.out.grown hgrow3 HP2.out.size (fun j e => by have := (HO2.out.lt j e).1; simp; omega); have e0 : w3.cell? ⟨w1.heap.size, 0, none⟩ = some (.int .i64 xc) := cell_below p3 (cell_in (heap_alloc_new _ _) rfl); have e1 : w3.cell? ⟨w1.heap.size, 1, none⟩ = some (.int .i64 xs) := cell_below p3 (cell_in (heap_alloc_new _ _) rfl); have e2 : w3.cell? ⟨w1.heap.size, 2, none⟩ = some (.int .i64 xt) := cell_below p3 (cell_in (heap_alloc_new _ _) rfl); have e3 : w3.cell? ⟨w1.heap.size, 3, none⟩ = some (.int .i64 xn) := cell_below p3 (cell_in (heap_alloc_new _ _) rfl); have e4 : w3.cell? ⟨w1.heap.size, 4, none⟩ = some (.int .i64 xg) := cell_below p3 (cell_in (heap_alloc_new _ _) rfl); have r0 := cell_below p3 (cell_alloc (HZC.out 0 (by decide))); have r1 := cell_below p3 (cell_alloc (HZC.out 1 (by decide))); have r2 := cell_below p3 (cell_alloc (HZC.out 2 (by decide))); have r3 := cell_below p3 (cell_alloc (HZC.out 3 (by decide))); have r4 := cell_below p3 (cell_alloc (HZC.out 4 (by decide))); have f0 : w3.frozen? ⟨w.heap.size, 0, none⟩ = false := HFZ.out w3 p3 0; have f1 : w3.frozen? ⟨w.heap.size, 1, none⟩ = false := HFZ.out w3 p3 1; have f2 : w3.frozen? ⟨w.heap.size, 2, none⟩ = false := HFZ.out w3 p3 2; have f3 : w3.frozen? ⟨w.heap.size, 3, none⟩ = false := HFZ.out w3 p3 3; have f4 : w3.frozen? ⟨w.heap.size, 4, none⟩ = false := HFZ.out w3 p3 4; have HQ3 := Lib.hid q3; clear p3; clear q3; have HO3 := Lib.hid hown3; clear hown3))
    have hA : es.eraseIdx k = es.take k := by rw [List.eraseIdx_eq_take_drop_succ, List.drop_of_length_le (by omega), List.append_nil]
    have ho : w3.ownsRow (w1.heap.size + 1) 40 5 (.slice av3 k cv3) (es.eraseIdx k).length (encs (es.eraseIdx k)) := by
      have h := HO3.out
      rw [Nat.add_zero, List.append_nil] at h
      rw [hA, List.length_take, Nat.min_eq_left (by omega)]
      exact h
    have hs := IsR.set_high (l := es.eraseIdx k) HH.out.1 HQ3.out ho (Nat.le_refl _) (X := w.heap.size) (base := w1.heap.size + 1) (by have := HB1.out.size; omega) [(0, .int .i64 xc), (1, .int .i64 xs), (2, .int .i64 xt), (3, .int .i64 xn), (4, .int .i64 xg)]
    exact bodyPost_ret (v := .tuple #[entVal ⟨xc, xs, xt, xn, xg⟩, .int .i64 0]) (by simp [results, Try.results16, go_sem, *]) rfl ⟨rfl, hs⟩
  · go_wp2_with (first
      | (at_builtin; refine wpList_append_own _ rfl _ _ 71 rfl (w1.heap.size + 1) 40 i0 (.agg #[.int .i64 0, .int .i64 0, .int .i64 0, .int .i64 0, .int .i64 0]) 5 40 Try.underlying71 hi' hz0 hz1 hz2 rfl (by decide) (.slice none 0 0) 0 [] rfl (World.ownsRow_nil _ _ _ _) ⟨b, 0, none⟩ k _ (encs (es.take k)) (by rfl) (by rw [encs_length, List.length_take]; omega) (HTN.out) (encs_one _) (by unfold maxLen; omega) (by omega) (by simp) ?_; intro v2 w2 hown2 hgrow2 _; rw [Nat.zero_add, List.nil_append] at hown2; obtain ⟨av2, cv2, rfl⟩ := own_form hown2; have q2 := (HB1.out.alloc HB1.out.size (.cells (cellsE xc xs xt xn xg) 40 (0, 0))).grown hgrow2 (by have := HB1.out.size; simp; omega) (fun j e => by cases e); have hB2 := cell_below q2 hB; have HQ2 := Lib.hid q2; clear q2; have p2 : Below (w1.alloc (.cells (cellsE xc xs xt xn xg) 40 (0, 0))).heap.size (w1.alloc (.cells (cellsE xc xs xt xn xg) 40 (0, 0))) w2 := (Below.refl _ _).grown hgrow2 (Nat.le_refl _) (fun j e => by cases e); have HP2 := Lib.hid p2; clear p2; have HZ2 := Lib.hid (show w1.heap.size + 1 ≤ w2.heap.size by have := hgrow2.size; simpa using this); have HO2 := Lib.hid hown2; clear hown2)
      | (at_builtin; refine wpList_append_own _ rfl _ _ 71 rfl (w1.heap.size + 1) 40 i0 (.agg #[.int .i64 0, .int .i64 0, .int .i64 0, .int .i64 0, .int .i64 0]) 5 40 Try.underlying71 hi' hz0 hz1 hz2 rfl (by decide) _ k (encs (es.take k)) (by rfl) HO2.out ⟨b, (k + 1) * 5, none⟩ (es.length - (k + 1)) _ (encs (es.drop (k + 1))) (by rfl) (by rw [encs_length, List.length_drop]) (by intro j u hu; rw [Addr.add_lit]; rw [encs_drop, List.getElem?_drop] at hu; exact HNW.out w2 HQ2.out _ u hu) (encs_one _) (by unfold maxLen; omega) (by omega) (by have := HZ2.out; omega) ?_; intro v3 w3 hown3 hgrow3 _; obtain ⟨av3, cv3, rfl⟩ := own_form hown3; have q3 := HQ2.out.grown hgrow3 HQ2.out.size (fun j e => by have := (HO2.out.lt j e).1; omega); have hB3 := cell_below q3 hB; have hf3 : w3.frozen? ⟨R, 0, none⟩ = false := frozen_in (below_cells q3 HH.out.1); have p3 := HP2.out.grown hgrow3 HP2.out.size (fun j e => by have := (HO2.out.lt j e).1; simp; omega); have e0 : w3.cell? ⟨w1.heap.size, 0, none⟩ = some (.int .i64 xc) := cell_below p3 (cell_in (heap_alloc_new _ _) rfl); have e1 : w3.cell? ⟨w1.heap.size, 1, none⟩ = some (.int .i64 xs) := cell_below p3 (cell_in (heap_alloc_new _ _) rfl); have e2 : w3.cell? ⟨w1.heap.size, 2, none⟩ = some (.int .i64 xt) := cell_below p3 (cell_in (heap_alloc_new _ _) rfl); have e3 : w3.cell? ⟨w1.heap.size, 3, none⟩ = some (.int .i64 xn) := cell_below p3 (cell_in (heap_alloc_new _ _) rfl); have e4 : w3.cell? ⟨w1.heap.size, 4, none⟩ = some (.int .i64 xg) := cell_below p3 (cell_in (heap_alloc_new _ _) rfl); have r0 := cell_below p3 (cell_alloc (HZC.out 0 (by decide))); have r1 := cell_below p3 (cell_alloc (HZC.out 1 (by decide))); have r2 := cell_below p3 (cell_alloc (HZC.out 2 (by decide))); have r3 := cell_below p3 (cell_alloc (HZC.out 3 (by decide))); have r4 := cell_below p3 (cell_alloc (HZC.out 4 (by decide))); have f0 : w3.frozen? ⟨w.heap.size, 0, none⟩ = false := HFZ.out w3 p3 0; have f1 : w3.frozen? ⟨w.heap.size, 1, none⟩ = false := HFZ.out w3 p3 1; have f2 : w3.frozen? ⟨w.heap.size, 2, none⟩ = false := HFZ.out w3 p3 2; have f3 : w3.frozen? ⟨w.heap.size, 3, none⟩ = false := HFZ.out w3 p3 3; have f4 : w3.frozen? ⟨w.heap.size, 4, none⟩ = false := HFZ.out w3 p3 4; have HQ3 := Lib.hid q3; clear p3; clear q3; have HO3 := Lib.hid hown3; clear hown3))
    have hB' : (es.eraseIdx k).length = k + (es.length - (k + 1)) := by rw [List.length_eraseIdx_of_lt hk]; omega
    have ho : w3.ownsRow (w1.heap.size + 1) 40 5 (.slice av3 (k + (es.length - (k + 1))) cv3) (es.eraseIdx k).length (encs (es.eraseIdx k)) := by
      have h := HO3.out
      rw [← encs_append, ← List.eraseIdx_eq_take_drop_succ] at h
      rw [hB']
      exact h
    have hs := IsR.set_high (l := es.eraseIdx k) HH.out.1 HQ3.out ho (Nat.le_refl _) (X := w.heap.size) (base := w1.heap.size + 1) (by have := HB1.out.size; omega) [(0, .int .i64 xc), (1, .int .i64 xs), (2, .int .i64 xt), (3, .int .i64 xn), (4, .int .i64 xg)]
    exact bodyPost_ret (v := .tuple #[entVal ⟨xc, xs, xt, xn, xg⟩, .int .i64 0]) (by simp [results, Try.results16, go_sem, *]) rfl ⟨rfl, hs⟩

end Go.Proofs.Ytkpjfmlhjpbdhaa
