/- Contracts: laying an entry in, where there is room. -/
import Derived.Test.YtkpjfmlhjpbdhaaQput
namespace Go.Proofs.Ytkpjfmlhjpbdhaa
open Go.RowKit Go.Lib Go.Sort
attribute [local go_sem ↓] Go.wp_at_zero Go.wp_at_succ

theorem encs_snoc (es : List Ent) (x : Ent) : encs es ++ [.int .i64 x.c, .int .i64 x.s, .int .i64 x.t, .int .i64 x.n, .int .i64 x.g] = encs (es ++ [x]) := by
  rw [encs, encs, List.flatMap_append]; rfl

theorem put_world {base n c : Nat} {a : Option Addr} {w W W3 w4 : World} {xs : List Value} (h3 : Below W.heap.size W W3) (hWW : Below w.heap.size w W) (hrow : W.ownsRow base 35 5 (.slice a n c) n xs)
    (hg : W3.grownBy w4 (Value.slice a n c).ownBlock) : Chg base [35, 70] w w4 := by
  have h1 : Chg base [35, 70] w W3 := (Chg.of_below hWW).trans (Chg.of_below h3)
  refine h1.trans ?_
  obtain ⟨_, ⟨e, _⟩ | ⟨g, cap, cur, e, hb, hh, _⟩⟩ := hrow
  · rw [e] at hg
    exact Chg.of_below ⟨hg.os, hg.tape, hg.output, hg.size, fun k hk => hg.block k hk (by simp [Value.ownBlock])⟩
  · rw [e] at hg
    exact Chg.grown hg (c := cur) (e := 35) (f := (0, 0)) (below_cells h3 hh) (by simp) hb

theorem sort_after {base B g cap n : Nat} {es : List Ent} {x : Ent} {v0 : Value} {room : Int} {w4 : World} (hn : es.length = n) (hn2 : n < 1000000) (hbB : base ≤ B)
    (hown : w4.ownsRow base 35 5 (.slice (some ⟨g, 0, none⟩) (n + 1) cap) (n + 1) (encs es ++ [.int .i64 x.c, .int .i64 x.s, .int .i64 x.t, .int .i64 x.n, .int .i64 x.g]))
    (hB : w4.heap[B]? = some (.cells #[v0, .int .i64 room] 70 (0, 0))) :
    Calls Try.prog 29 #[.slice (some ⟨g, 0, none⟩) (n + 1) cap] (w4.setCell ⟨B, 0, none⟩ (.slice (some ⟨g, 0, none⟩) (n + 1) cap)) fun e w' =>
      e = .returned (.tuple #[]) ∧ ∃ es', es'.Perm (es ++ [x]) ∧ Sorted es' ∧ IsQ w' base B es' room ∧ Chg base [35, 70] w4 w' := by
  subst hn
  rw [encs_snoc] at hown
  have hl : (es ++ [x]).length = es.length + 1 := by simp
  rw [← hl] at hown ⊢
  have hlB : B < w4.heap.size := (Array.getElem?_eq_some_iff.1 hB).1
  obtain ⟨_, ⟨e, _⟩ | ⟨g', cap', cur, e, hb, hh, hcap, hm, hs, ht⟩⟩ := hown
  · cases e
  · cases e
    have hne : g ≠ B := by rintro rfl; rw [hB] at hh; cases hh
    have hh5 : (w4.setCell ⟨B, 0, none⟩ (.slice (some ⟨g, 0, none⟩) (es ++ [x]).length cap)).heap[g]? = some (.cells cur 35 (0, 0)) := by
      rw [Below.heap_setCell _ _ _ _ hne]; exact hh
    have hB5 : (w4.setCell ⟨B, 0, none⟩ (.slice (some ⟨g, 0, none⟩) (es ++ [x]).length cap)).heap[B]? = some (.cells #[.slice (some ⟨g, 0, none⟩) (es ++ [x]).length cap, .int .i64 room] 70 (0, 0)) := by
      simp only [World.setCell, Array.getElem?_modify, if_true, hB, Option.map_some]
      simp
    refine (sort_any base g cap cur (es ++ [x]) _ hb hh5 hcap hm hs ht (by omega)).mono ?_
    rintro e w' ⟨he, es', hl', hp, hsd, hr, hgr⟩
    have hc1 : Chg base [35, 70] w4 (w4.setCell ⟨B, 0, none⟩ (.slice (some ⟨g, 0, none⟩) (es ++ [x]).length cap)) := Chg.setCell (p := ⟨B, 0, none⟩) hB (by simp) hbB _
    have hc2 := Chg.grown hgr hh5 (T := [35, 70]) (by simp) hb
    refine ⟨he, es', hp, hsd, ⟨_, hbB, ?_, hr⟩, hc1.trans hc2⟩
    rw [hgr.block B (by rw [World.size_setCell]; exact hlB) (fun e => hne (Option.some.inj e).symm)]
    exact hB5

set_option maxHeartbeats 2000000 in
set_option maxRecDepth 100000 in
theorem put_ok (base B : Nat) (es : List Ent) (room : Int) (x : Ent) (w : World) (hbase : base ≤ w.heap.size) (hq : IsQ w base B es room) (hr : lright x.c x.s x.t x.n = true) (hi : idxT x.g es 0 = -1) (hl : (es.length : Int) < room) (hn : es.length < 1000000) : Calls Try.prog 9 #[.pointer (some ⟨B, 0, none⟩), entVal x] w fun e w' =>
    e = .returned (.int .i64 0) ∧ ∃ es', es'.Perm (es ++ [x]) ∧ Sorted es' ∧ IsQ w' base B es' room ∧ Chg base [35, 70] w w' := by
  obtain ⟨xc, xs, xt, xn, xg⟩ := x
  have hR := cright_any xc xs xt xn
  simp only at hr hi
  rw [hr] at hR
  have hA := fun W (hW : Below w.heap.size w W) => at_any base B es room xg W (hq.below hW)
  rw [hi] at hA
  obtain ⟨v, hbB, hhB, hrow⟩ := id hq
  obtain ⟨a, c, rfl⟩ := row_len hrow
  have hneB : some B ≠ (Value.slice a es.length c).ownBlock := by
    intro e
    obtain ⟨_, ⟨e', _⟩ | ⟨g, cap, cur, e', _, hg, _⟩⟩ := hrow
    · rw [e'] at e; cases e
    · rw [e'] at e; cases e; rw [hhB] at hg; cases hg
  have hneX : some w.heap.size ≠ (Value.slice a es.length c).ownBlock := fun e => by
    have := (hrow.lt _ e.symm).2
    omega
  have hS : ∀ W, Below w.heap.size w W → W.heap[B]? = some (.cells #[.slice a es.length c, .int .i64 room] 70 (0, 0)) ∧ W.ownsRow base 35 5 (.slice a es.length c) es.length (encs es) :=
    fun W hW => ⟨below_cells hW hhB, below_row hW hrow⟩
  clear hhB hrow
  generalize hnn : es.length = n at *
  have HN := Lib.hid hnn; clear hnn
  have HR := Lib.hid hR; clear hR hr hi
  have HA := Lib.hid hA; clear hA hq
  have HS := Lib.hid hS; clear hS
  obtain ⟨i0, hi', hz0, hz1, hz2⟩ := info_parts infoE
  go_enter Try.func9, Try.ntmps9
  go_wp2_with fail
  refine (HR.out _).mono ?_
  rintro e w1 ⟨rfl, hE⟩
  obtain ⟨hc, hf⟩ := bcell hE.below
  have hb1 := (((Ext.refl _).alloc _).trans hE).below
  have x0 : w1.cell? ⟨w.heap.size, 0, none⟩ = some (.int .i64 xc) := by rw [hc _ _ (by simp)]; simp
  have x1 : w1.cell? ⟨w.heap.size, 1, none⟩ = some (.int .i64 xs) := by rw [hc _ _ (by simp)]; simp
  have x2 : w1.cell? ⟨w.heap.size, 2, none⟩ = some (.int .i64 xt) := by rw [hc _ _ (by simp)]; simp
  have x3 : w1.cell? ⟨w.heap.size, 3, none⟩ = some (.int .i64 xn) := by rw [hc _ _ (by simp)]; simp
  have x4 : w1.cell? ⟨w.heap.size, 4, none⟩ = some (.int .i64 xg) := by rw [hc _ _ (by simp)]; simp
  clear hc hf
  have HE := Lib.hid hE; clear hE
  go_wp2_with fail
  refine (HA.out _ hb1).mono ?_
  rintro e w2 ⟨rfl, hE2⟩
  have hb2 := hb1.trans (hE2.mono hb1.size)
  obtain ⟨hh, hrow⟩ := HS.out _ hb2
  have s0 : w2.cell? ⟨B, 0, none⟩ = some (.slice a n c) := cell_in hh rfl
  have s1 : w2.cell? ⟨B, 1, none⟩ = some (.int .i64 room) := cell_in hh rfl
  have s2 : w2.frozen? ⟨B, 0, none⟩ = false := frozen_in hh
  have y0 := cell_below hE2 x0
  have y1 := cell_below hE2 x1
  have y2 := cell_below hE2 x2
  have y3 := cell_below hE2 x3
  have y4 := cell_below hE2 x4
  clear x0 x1 x2 x3 x4
  have HH := Lib.hid hh; clear hh
  have HROW := Lib.hid hrow; clear hrow
  have HE2 := Lib.hid hE2; clear hE2
  have HB2 := Lib.hid hb2; clear hb2 hb1
  generalize hX : w.heap.size = X at y0 y1 y2 y3 y4 hneX
  have HX := Lib.hid hX; clear hX
  go_wp2
  go_quiet (fail)
  go_wp2
  obtain ⟨W, hW⟩ : ∃ W, W = w2.drewN nq := ⟨_, rfl⟩
  rw [← hW]
  have t0 : W.cell? ⟨B, 0, none⟩ = some (.slice a n c) := by rw [hW]; exact s0
  have t2 : W.frozen? ⟨B, 0, none⟩ = false := by rw [hW]; exact s2
  have u0 : W.cell? ⟨X, 0, none⟩ = some (.int .i64 xc) := by rw [hW]; exact y0
  have u1 : W.cell? ⟨X, 1, none⟩ = some (.int .i64 xs) := by rw [hW]; exact y1
  have u2 : W.cell? ⟨X, 2, none⟩ = some (.int .i64 xt) := by rw [hW]; exact y2
  have u3 : W.cell? ⟨X, 3, none⟩ = some (.int .i64 xn) := by rw [hW]; exact y3
  have u4 : W.cell? ⟨X, 4, none⟩ = some (.int .i64 xg) := by rw [hW]; exact y4
  have zB : B < W.heap.size := cell_lt t0
  have zX : X < W.heap.size := cell_lt u0
  have hrowW : W.ownsRow base 35 5 (.slice a n c) n (encs es) := by rw [hW]; exact HROW.out
  have hwW : Below w.heap.size w W := by rw [hW]; exact below_drewN HB2.out _
  have hhW : W.heap[B]? = some (.cells #[.slice a n c, .int .i64 room] 70 (0, 0)) := by rw [hW]; exact HH.out
  have HRW := Lib.hid hrowW; clear hrowW
  have HWW := Lib.hid hwW; clear hwW
  have HHW := Lib.hid hhW; clear hhW
  clear HROW HB2 HH HE2 s0 s1 s2 y0 y1 y2 y3 y4 hW
  have HNB := Lib.hid hneB; clear hneB
  have HNX := Lib.hid hneX; clear hneX
  go_region_law
    ((refine step_append_lies _ (by rfl) _ _ 68 (by rfl) base 35 i0 (.agg #[.int .i64 0, .int .i64 0, .int .i64 0, .int .i64 0, .int .i64 0]) 5 40 Try.underlying68 hi' hz0 hz1 hz2 rfl (by decide) (.slice a n c) n (encs es) (by rfl) (by first | exact HRW.out | exact HRW.out.alloc _) ⟨W.heap.size, 0, none⟩ 1 1 [.int .i64 xc, .int .i64 xs, .int .i64 xt, .int .i64 xn, .int .i64 xg] (by rfl) (by rfl) (World.news_of_block (cs := #[.int .i64 xc, .int .i64 xs, .int .i64 xt, .int .i64 xn, .int .i64 xg]) (by first | exact heap_alloc_new _ _ | exact heap_alloc_new _ _)) (by simp [Value.oneCell']) (by decide) (by unfold maxLen; omega) (by omega) (by have := HWW.out.size; simp; omega) (W.heap.size + 1) (by simp) ?_; intro g cap w4 hown4 hgrow hat hlt; have q0 : w4.cell? ⟨B, 0, none⟩ = some (.slice a n c) := cell_grown hgrow (cell_alloc (cell_drew t0)) HNB.out; have q1 : w4.frozen? ⟨B, 0, none⟩ = false := fz_grown (j := 0) hgrow (cell_alloc (cell_drew t0)) (fz_alloc (cell_drew t0) t2) HNB.out))
  all_goals
    have h3 : Below W.heap.size W _ := ((Below.refl _ W).alloc (Nat.le_refl _) (.cells #[.int .i64 xc, .int .i64 xs, .int .i64 xt, .int .i64 xn, .int .i64 xg] 35)).drew
    have hpw := put_world h3 HWW.out HRW.out hgrow
    have hB4 : w4.heap[B]? = some (.cells #[.slice a n c, .int .i64 room] 70 (0, 0)) := by
      rw [hgrow.block B (by simp; omega) HNB.out]; exact below_cells h3 HHW.out
    have hsort := sort_after (x := ⟨xc, xs, xt, xn, xg⟩) HN.out hn hbB hown4 hB4
    have HSO := Lib.hid hsort; clear hsort
    have HPW := Lib.hid hpw; clear hpw
    clear hB4 hown4 hgrow h3
    go_wp2_with (go_at_call 29; refine HSO.out.mono ?_; rintro e w' ⟨rfl, es', hp, hsd, hq', hcg⟩)
    go_ret
    exact ⟨rfl, es', hp, hsd, hq', HPW.out.trans hcg⟩

end Go.Proofs.Ytkpjfmlhjpbdhaa
