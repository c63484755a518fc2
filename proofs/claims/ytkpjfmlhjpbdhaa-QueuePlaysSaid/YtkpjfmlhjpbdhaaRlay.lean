/- Contract: the reference lays an entry in. -/
import Derived.Test.YtkpjfmlhjpbdhaaRd
import Derived.Test.YtkpjfmlhjpbdhaaInsp
import Derived.Deep.RegionHeld3
namespace Go.Proofs.Ytkpjfmlhjpbdhaa
open Go.RowKit Go.Lib Go.Sort
attribute [local go_sem ↓] Go.wp_at_zero Go.wp_at_succ

theorem infoR : (Try.prog.info? 40).map (fun i => (i.zero, i.size, i.bytes)) = some (some (.agg #[.int .i64 0, .int .i64 0, .int .i64 0, .int .i64 0, .int .i64 0]), 5, 40) := by kernel_rfl

theorem own_len {w : World} {b e s n n' m c : Nat} {a : Option Addr} {xs : List Value} (h : w.ownsRow b e s (.slice a n c) m xs) (hn : n = n') : w.ownsRow b e s (.slice a n' c) m xs := by subst hn; exact h

theorem LayS.len_no {x : Ent} {l out : List Ent} (h : LayS x l false out) : out.length = l.length := by
  rcases h with ⟨_, _, rfl⟩ | ⟨h, _⟩
  · rfl
  · cases h

theorem push2 {w W W' : World} {x y : Ent} {v v' : Value} {out : List Ent} (h1 : W.ownsRow (w.heap.size + 1) 40 5 v out.length (encs out)) (h2 : Below w.heap.size w W) (h3 : W.heap[w.heap.size]? = some (.cells (cellsE x.c x.s x.t x.n x.g) 40 (0, 0))) (hg : (W.alloc (.cells (cellsE y.c y.s y.t y.n y.g) 40 (0, 0))).grownBy W' v.ownBlock)
    (hr : W'.ownsRow (w.heap.size + 1) 40 5 v' (out.length + 1) (encs out ++ [.int .i64 y.c, .int .i64 y.s, .int .i64 y.t, .int .i64 y.n, .int .i64 y.g])) :
    W'.ownsRow (w.heap.size + 1) 40 5 v' (out ++ [y]).length (encs (out ++ [y])) ∧ Below w.heap.size w W' ∧ W'.heap[w.heap.size]? = some (.cells (cellsE x.c x.s x.t x.n x.g) 40 (0, 0)) := by
  have hb : Below W.heap.size W (W.alloc (.cells (cellsE y.c y.s y.t y.n y.g) 40 (0, 0))) := (Below.refl _ _).alloc (Nat.le_refl _) _
  have h2' := h2.trans (hb.mono h2.size)
  refine ⟨by rw [List.length_append, ← encs_snoc]; exact hr, h2'.grown hg h2'.size (fun j e => by have := (h1.lt j e).1; omega), ?_⟩
  rw [hg.block _ (Array.getElem?_eq_some_iff.1 (below_cells hb h3)).1 (fun e => by have := (h1.lt _ e.symm).1; omega)]
  exact below_cells hb h3

/-- what the loop of lay holds in memory -/
structure LayM (w W : World) (x : Ent) (es : List Ent) (k : Nat) (v : Value) (d : Bool) (out : List Ent) : Prop where
  row : W.ownsRow (w.heap.size + 1) 40 5 v out.length (encs out)
  b : Below w.heap.size w W
  box : W.heap[w.heap.size]? = some (.cells (cellsE x.c x.s x.t x.n x.g) 40 (0, 0))
  st : LayS x (es.take k) d out
  len : out.length ≤ k + 1

theorem LayM.below {w W W' : World} {x : Ent} {es : List Ent} {k : Nat} {v : Value} {d : Bool} {out : List Ent} (h : LayM w W x es k v d out) (hb : Below W.heap.size W W') : LayM w W' x es k v d out :=
  ⟨below_row hb h.row, h.b.trans (hb.mono h.b.size), below_cells hb h.box, h.st, h.len⟩

theorem own_form {w : World} {base e size n : Nat} {v : Value} {xs : List Value} (h : w.ownsRow base e size v n xs) : ∃ a c, v = .slice a n c := by
  obtain ⟨_, ⟨rfl, hn⟩ | ⟨b, cap, cur, rfl, _⟩⟩ := h
  · exact ⟨none, 0, by rw [hn]⟩
  · exact ⟨_, _, rfl⟩

theorem LayM.push {w W W' : World} {x y : Ent} {es : List Ent} {k : Nat} {v v' : Value} {d : Bool} {out : List Ent} (h : LayM w W x es k v d out) (hg : W.grownBy W' v.ownBlock)
    (hr : W'.ownsRow (w.heap.size + 1) 40 5 v' (out.length + 1) (encs out ++ [.int .i64 y.c, .int .i64 y.s, .int .i64 y.t, .int .i64 y.n, .int .i64 y.g])) :
    W'.ownsRow (w.heap.size + 1) 40 5 v' (out ++ [y]).length (encs (out ++ [y])) ∧ Below w.heap.size w W' ∧ W'.heap[w.heap.size]? = some (.cells (cellsE x.c x.s x.t x.n x.g) 40 (0, 0)) := by
  refine ⟨by rw [List.length_append, ← encs_snoc]; exact hr, h.b.grown hg h.b.size (fun j e => by have := (h.row.lt j e).1; omega), ?_⟩
  rw [hg.block _ (Array.getElem?_eq_some_iff.1 h.box).1 (fun e => by have := (h.row.lt _ e.symm).1; omega)]
  exact h.box

/-- what a method of the reference's queue leaves as it was: all that lay before, but for the queue's own block -/
structure Only (R : Nat) (w w' : World) : Prop where
  os : w'.os = w.os
  tape : w'.tape = w.tape
  output : w'.output = w.output
  size : w.heap.size ≤ w'.heap.size
  block : ∀ i, i < w.heap.size → i ≠ R → w'.heap[i]? = w.heap[i]?
theorem Only.of_below {R : Nat} {w w' : World} (h : Below w.heap.size w w') : Only R w w' := ⟨h.os, h.tape, h.output, h.size, fun i hi _ => h.block i hi⟩
theorem Only.after {R : Nat} {a b c : World} (h : Below a.heap.size a b) (k : Only R b c) : Only R a c :=
  ⟨k.os.trans h.os, k.tape.trans h.tape, k.output.trans h.output, Nat.le_trans h.size k.size, fun i hi hn => (k.block i (Nat.lt_of_lt_of_le hi h.size) hn).trans (h.block i hi)⟩
theorem Only.trans {R : Nat} {a b c : World} (h : Only R a b) (k : Only R b c) : Only R a c :=
  ⟨k.os.trans h.os, k.tape.trans h.tape, k.output.trans h.output, Nat.le_trans h.size k.size, fun i hi hn => (k.block i (Nat.lt_of_lt_of_le hi h.size) hn).trans (h.block i hi hn)⟩
theorem Only.cell {R : Nat} {w w' : World} (h : Only R w w') {b i : Nat} {v : Value} (hn : b ≠ R) (hc : w.cell? ⟨b, i, none⟩ = some v) : w'.cell? ⟨b, i, none⟩ = some v :=
  (World.cell?_of_block (h.block b (cell_lt hc) hn)).trans hc
theorem Only.cells {R : Nat} {w w' : World} (h : Only R w w') {b : Nat} {c : Array Value} {e : Nat} {f : Nat × Nat} (hn : b ≠ R) (hh : w.heap[b]? = some (.cells c e f)) : w'.heap[b]? = some (.cells c e f) := by
  rw [h.block b (Array.getElem?_eq_some_iff.1 hh).1 hn]; exact hh
theorem Only.set_new {R : Nat} {w w' : World} (h : Only R w w') {p : Addr} (hp : w.heap.size ≤ p.block) (u : Value) : Only R w (w'.setCell p u) :=
  ⟨h.os, h.tape, h.output, by simpa using h.size, fun i hi hn => by rw [Below.heap_setCell _ _ _ _ (by omega)]; exact h.block i hi hn⟩
theorem Only.below {R base : Nat} {w w' : World} (h : Only R w w') (hR : base ≤ R) (hb : base ≤ w.heap.size) : Below base w w' :=
  ⟨h.os, h.tape, h.output, h.size, fun i hi => h.block i (Nat.lt_of_lt_of_le hi hb) (by omega)⟩

theorem lay_end {w W : World} {R : Nat} {l : List Ent} {u v : Value} {room : Int} (hh : w.heap[R]? = some (.cells #[u, .int .i64 room] 73 (0, 0))) (hb : Below w.heap.size w W)
    (hr : W.ownsRow (w.heap.size + 1) 40 5 v l.length (encs l)) : IsR (W.setCell ⟨R, 0, none⟩ v) R l room ∧ Only R w (W.setCell ⟨R, 0, none⟩ v) := by
  have hR := (Array.getElem?_eq_some_iff.1 hh).1
  have hhW := below_cells hb hh
  refine ⟨⟨v, ?_, ?_⟩, ⟨hb.os, hb.tape, hb.output, by simpa using hb.size, fun k hk hn => ?_⟩⟩
  · simp only [World.setCell, Array.getElem?_modify, if_true, hhW, Option.map_some]
    simp
  · obtain ⟨h1, h2 | ⟨g, cap, cur, hv, hg, hh', hrest⟩⟩ := hr
    · exact ⟨h1, .inl h2⟩
    · refine ⟨h1, .inr ⟨g, cap, cur, hv, Nat.zero_le _, ?_, hrest⟩⟩
      rw [Below.heap_setCell _ _ _ _ (by exact fun e => by have : g = R := e; omega)]; exact hh'
  · rw [Below.heap_setCell _ _ _ _ hn, hb.block k hk]

set_option maxHeartbeats 4000000 in
set_option maxRecDepth 100000 in
theorem rlay_any (R : Nat) (es : List Ent) (room : Int) (x : Ent) (w : World) (hq : IsR w R es room) (hn : es.length < 1000000) : Calls Try.prog 32 #[.pointer (some ⟨R, 0, none⟩), entVal x] w fun e w' =>
    e = .returned (.tuple #[]) ∧ IsR w' R (ins x es) room ∧ Only R w w' := by
  obtain ⟨i0, hi', hz0, hz1, hz2⟩ := info_parts infoR
  obtain ⟨v0, hh, hr⟩ := hq
  obtain ⟨a0, cap0, rfl⟩ := rrow_len hr
  have hrow : ∀ k, (hk : k < es.length) → ∃ b, a0 = some ⟨b, 0, none⟩ ∧ b < w.heap.size ∧ w.cell? ⟨b, k * 5, none⟩ = some (.int .i64 (es[k]).c) ∧ w.cell? ⟨b, k * 5 + 1, none⟩ = some (.int .i64 (es[k]).s) ∧ w.cell? ⟨b, k * 5 + 2, none⟩ = some (.int .i64 (es[k]).t) ∧ w.cell? ⟨b, k * 5 + 3, none⟩ = some (.int .i64 (es[k]).n) ∧ w.cell? ⟨b, k * 5 + 4, none⟩ = some (.int .i64 (es[k]).g) := by
    intro k hk
    obtain ⟨b, cap', e, h1, _, _, hc⟩ := rrow_at hr k hk
    cases e
    exact ⟨b, rfl, h1, hc⟩
  have HROW := Lib.hid hrow; clear hrow
  have HH := Lib.hid hh; clear hh hr
  obtain ⟨xc, xs, xt, xn, xg⟩ := x
  have h0 : LayM w (w.alloc (.cells (cellsE xc xs xt xn xg) 40 (0, 0))) ⟨xc, xs, xt, xn, xg⟩ es 0 (.slice none 0 0) false [] :=
    ⟨World.ownsRow_nil _ _ _ _, (Below.refl _ _).alloc (Nat.le_refl _) _, heap_alloc_new _ _, LayS.nil _, by simp⟩
  have H0 := Lib.hid h0; clear h0
  go_enter Try.func32, Try.ntmps32
  go_wp2
  go_loopw [4, 5, 6] (fun v d i wr => ∃ (k : Nat) (b : Bool) (out : List Ent), k ≤ es.length ∧ i = .int .i64 k ∧ d = .bool b ∧ Hid (LayM w wr ⟨xc, xs, xt, xn, xg⟩ es k v b out)) (fun _ _ i _ => es.length - (intOf i).toNat)
  case atStart => exact ⟨0, false, [], by omega, rfl, rfl, H0⟩
  case round =>
    obtain ⟨k, d, out, hk, rfl, rfl, HL⟩ := hrel
    obtain ⟨av, cv, rfl⟩ := own_form HL.out.row
    have hfR : wr.frozen? ⟨R, 0, none⟩ = false := frozen_in (below_cells HL.out.b HH.out)
    have hB : wr.cell? ⟨R, 0, none⟩ = some (.slice a0 es.length cap0) := cell_in (below_cells HL.out.b HH.out) rfl
    have x0 : wr.cell? ⟨w.heap.size, 0, none⟩ = some (.int .i64 xc) := cell_in HL.out.box rfl
    have x1 : wr.cell? ⟨w.heap.size, 1, none⟩ = some (.int .i64 xs) := cell_in HL.out.box rfl
    have x2 : wr.cell? ⟨w.heap.size, 2, none⟩ = some (.int .i64 xt) := cell_in HL.out.box rfl
    have x3 : wr.cell? ⟨w.heap.size, 3, none⟩ = some (.int .i64 xn) := cell_in HL.out.box rfl
    have x4 : wr.cell? ⟨w.heap.size, 4, none⟩ = some (.int .i64 xg) := cell_in HL.out.box rfl
    by_cases hlt : k < es.length
    · have k0 : (0 : Int) ≤ (k : Int) := by omega
      have k1 : (k : Int) < (es.length : Int) := by omega
      obtain ⟨b, rfl, hbl, c0', c1', c2', c3', c4'⟩ := HROW.out k hlt
      have c0 := cell_below HL.out.b c0'
      have c1 := cell_below HL.out.b c1'
      have c2 := cell_below HL.out.b c2'
      have c3 := cell_below HL.out.b c3'
      have c4 := cell_below HL.out.b c4'
      have htk : es.take (k + 1) = es.take k ++ [es[k]] := by rw [List.take_succ_eq_append_getElem hlt]
      generalize es[k] = y at c0 c1 c2 c3 c4 c0' c1' c2' c3' c4' htk
      obtain ⟨yc, ys, yt, yn, yg⟩ := y
      simp only at c0 c1 c2 c3 c4 c0' c1' c2' c3' c4'
      have HC0 := Lib.hid c0'
      have HC1 := Lib.hid c1'
      have HC2 := Lib.hid c2'
      have HC3 := Lib.hid c3'
      have HC4 := Lib.hid c4'
      clear c0' c1' c2' c3' c4'
      have HTK := Lib.hid htk; clear htk
      cases d with
      | true =>
        go_wp2
        go_quiet (fail)
        have HQ := Lib.hid (HL.out.below (below_drewN (Below.refl _ _) nq))
        go_wp2_with (at_builtin; refine wpList_append_own _ rfl _ _ 71 rfl (w.heap.size + 1) 40 i0 (.agg #[.int .i64 0, .int .i64 0, .int .i64 0, .int .i64 0, .int .i64 0]) 5 40 Try.underlying71 hi' hz0 hz1 hz2 rfl (by decide) _ out.length (encs out) rfl (HQ.out.row.alloc _) ⟨wr.heap.size, 0, none⟩ 1 1 [.int .i64 yc, .int .i64 ys, .int .i64 yt, .int .i64 yn, .int .i64 yg] rfl rfl (World.news_of_block (cs := #[.int .i64 yc, .int .i64 ys, .int .i64 yt, .int .i64 yn, .int .i64 yg]) (by exact heap_alloc_new _ _)) (by simp [Value.oneCell']) (by unfold maxLen; have := HQ.out.len; omega) (by have := HQ.out.len; omega) (by have := HQ.out.b.size; simp at this ⊢; omega) ?_; intro v' w' hown' hgrow _; obtain ⟨av', cv', rfl⟩ := own_form hown'; have hp := (HQ.out.below ((Below.refl _ _).alloc (Nat.le_refl _) (.cells (cellsE yc ys yt yn yg) 40 (0, 0)))).push (y := ⟨yc, ys, yt, yn, yg⟩) hgrow hown'; have hB := cell_in (below_cells hp.2.1 HH.out) (i := 0) rfl; have hfR : w'.frozen? ⟨R, 0, none⟩ = false := frozen_in (below_cells hp.2.1 HH.out); have HP := Lib.hid hp; clear hp hown' hgrow)
        go_roundw
        case rel => exact ⟨k + 1, true, out ++ [⟨yc, ys, yt, yn, yg⟩], by omega, by go_num, rfl, Lib.hid ⟨HP.out.1, HP.out.2.1, HP.out.2.2, by rw [HTK.out]; exact HL.out.st.done _, by have := HL.out.len; simp; omega⟩⟩
        case measure => simp [intOf]; omega
      | false =>
        by_cases hxy : ltE ⟨xc, xs, xt, xn, xg⟩ ⟨yc, ys, yt, yn, yg⟩
        · skip
          have hP : ∀ W, Below wr.heap.size wr W → Calls Try.prog 43 #[.agg (cellsE xc xs xt xn xg), .agg (cellsE yc ys yt yn yg)] W fun e w' => e = .returned (.bool true) ∧ Hid (LayM w w' ⟨xc, xs, xt, xn, xg⟩ es k (.slice av out.length cv) false out) ∧ w'.cell? ⟨w.heap.size, 0, none⟩ = some (.int .i64 xc) ∧ w'.cell? ⟨w.heap.size, 1, none⟩ = some (.int .i64 xs) ∧ w'.cell? ⟨w.heap.size, 2, none⟩ = some (.int .i64 xt) ∧ w'.cell? ⟨w.heap.size, 3, none⟩ = some (.int .i64 xn) ∧ w'.cell? ⟨w.heap.size, 4, none⟩ = some (.int .i64 xg) ∧ w'.cell? ⟨R, 0, none⟩ = some (.slice (some ⟨b, 0, none⟩) es.length cap0) ∧ w'.cell? ⟨b, k * 5, none⟩ = some (.int .i64 yc) ∧ w'.cell? ⟨b, k * 5 + 1, none⟩ = some (.int .i64 ys) ∧ w'.cell? ⟨b, k * 5 + 2, none⟩ = some (.int .i64 yt) ∧ w'.cell? ⟨b, k * 5 + 3, none⟩ = some (.int .i64 yn) ∧ w'.cell? ⟨b, k * 5 + 4, none⟩ = some (.int .i64 yg) := by
            intro W hW
            refine (ahead_any ⟨xc, xs, xt, xn, xg⟩ ⟨yc, ys, yt, yn, yg⟩ W).mono ?_
            rintro e w' ⟨he, hb⟩
            have h := hW.trans (hb.mono hW.size)
            exact ⟨he.trans (congrArg _ (congrArg _ (@decide_eq_true _ (Classical.propDecidable _) hxy))), Lib.hid (HL.out.below h), cell_below h x0, cell_below h x1, cell_below h x2, cell_below h x3, cell_below h x4, cell_below h hB, cell_below h c0, cell_below h c1, cell_below h c2, cell_below h c3, cell_below h c4⟩
          have HP0 := Lib.hid hP; clear hP
          have HXY := Lib.hid hxy; clear hxy
          go_wp2
          go_region_held3 (fun w' => w'.cell? ⟨w.heap.size, 0, none⟩ = some (.int .i64 xc) ∧ w'.cell? ⟨w.heap.size, 1, none⟩ = some (.int .i64 xs) ∧ w'.cell? ⟨w.heap.size, 2, none⟩ = some (.int .i64 xt) ∧ w'.cell? ⟨w.heap.size, 3, none⟩ = some (.int .i64 xn) ∧ w'.cell? ⟨w.heap.size, 4, none⟩ = some (.int .i64 xg) ∧ w'.cell? ⟨R, 0, none⟩ = some (.slice (some ⟨b, 0, none⟩) es.length cap0) ∧ w'.cell? ⟨b, k * 5, none⟩ = some (.int .i64 yc) ∧ w'.cell? ⟨b, k * 5 + 1, none⟩ = some (.int .i64 ys) ∧ w'.cell? ⟨b, k * 5 + 2, none⟩ = some (.int .i64 yt) ∧ w'.cell? ⟨b, k * 5 + 3, none⟩ = some (.int .i64 yn) ∧ w'.cell? ⟨b, k * 5 + 4, none⟩ = some (.int .i64 yg))
            ((repeat' apply And.intro) <;> (repeat (first | with_reducible assumption | with_reducible refine cell_drewN ?_ | with_reducible refine cell_drew ?_)))
            (first
              | (go_at_call 43; refine (HP0.out _ (by repeat (first | with_reducible exact RowKit.Below.refl _ _ | with_reducible refine below_drewN ?_ _ | with_reducible refine RowKit.Below.drew ?_))).mono ?_; rintro e v3 ⟨rfl, HQ, g0, g1, g2, g3, g4, g5, g6, g7, g8, g9, g10⟩))
          have HLN : Hid ((out ++ [(⟨xc, xs, xt, xn, xg⟩ : Ent)] ++ [(⟨yc, ys, yt, yn, yg⟩ : Ent)]).length ≤ k + 1 + 1) := Lib.hid (by have := HL.out.st.len_no; simp at this ⊢; omega)
          go_wp2_with (first
            | (at_builtin; refine wpList_append_own _ rfl _ _ 71 rfl (w.heap.size + 1) 40 i0 (.agg #[.int .i64 0, .int .i64 0, .int .i64 0, .int .i64 0, .int .i64 0]) 5 40 Try.underlying71 hi' hz0 hz1 hz2 rfl (by decide) _ (out.length) (encs (out)) (by rfl) (HQ.out.row.alloc (.cells (cellsE xc xs xt xn xg) 40 (0, 0))) ⟨v3.heap.size, 0, none⟩ 1 1 [.int .i64 xc, .int .i64 xs, .int .i64 xt, .int .i64 xn, .int .i64 xg] (by rfl) (by rfl) (World.news_of_block (cs := #[.int .i64 xc, .int .i64 xs, .int .i64 xt, .int .i64 xn, .int .i64 xg]) (by exact heap_alloc_new _ _)) (by simp [Value.oneCell']) (by unfold maxLen; have := HL.out.len; omega) (by have := HL.out.len; omega) (by have := HQ.out.b.size; simp at this ⊢; omega) ?_; intro v' w4 hown' hgrow _; obtain ⟨av4, cv4, rfl⟩ := own_form hown'; have hp := (HQ.out.below ((Below.refl _ _).alloc (Nat.le_refl _) (.cells (cellsE xc xs xt xn xg) 40 (0, 0)))).push (y := ⟨xc, xs, xt, xn, xg⟩) hgrow hown'; have hB := cell_in (below_cells hp.2.1 HH.out) (i := 0) rfl; have hfR : w4.frozen? ⟨R, 0, none⟩ = false := frozen_in (below_cells hp.2.1 HH.out); have d0 := cell_below hp.2.1 HC0.out; have d1 := cell_below hp.2.1 HC1.out; have d2 := cell_below hp.2.1 HC2.out; have d3 := cell_below hp.2.1 HC3.out; have d4 := cell_below hp.2.1 HC4.out; have HP4 := Lib.hid hp; clear hp hown' hgrow)
            | (at_builtin; refine wpList_append_own _ rfl _ _ 71 rfl (w.heap.size + 1) 40 i0 (.agg #[.int .i64 0, .int .i64 0, .int .i64 0, .int .i64 0, .int .i64 0]) 5 40 Try.underlying71 hi' hz0 hz1 hz2 rfl (by decide) _ ((out ++ [(⟨xc, xs, xt, xn, xg⟩ : Ent)]).length) (encs (out ++ [(⟨xc, xs, xt, xn, xg⟩ : Ent)])) (by rfl) (HP4.out.1.alloc (.cells (cellsE yc ys yt yn yg) 40 (0, 0))) ⟨w4.heap.size, 0, none⟩ 1 1 [.int .i64 yc, .int .i64 ys, .int .i64 yt, .int .i64 yn, .int .i64 yg] (by rfl) (by rfl) (World.news_of_block (cs := #[.int .i64 yc, .int .i64 ys, .int .i64 yt, .int .i64 yn, .int .i64 yg]) (by exact heap_alloc_new _ _)) (by simp [Value.oneCell']) (by unfold maxLen; have := HL.out.len; simp; omega) (by have := HL.out.len; simp; omega) (by have := HP4.out.2.1.size; simp at this ⊢; omega) ?_; intro v' w5 hown' hgrow _; obtain ⟨av5, cv5, rfl⟩ := own_form hown'; have hp := push2 (y := ⟨yc, ys, yt, yn, yg⟩) HP4.out.1 HP4.out.2.1 HP4.out.2.2 hgrow hown'; have hB := cell_in (below_cells hp.2.1 HH.out) (i := 0) rfl; have hfR : w5.frozen? ⟨R, 0, none⟩ = false := frozen_in (below_cells hp.2.1 HH.out); have HP5 := Lib.hid hp; clear hp hown' hgrow))
          go_roundw
          case rel => exact ⟨k + 1, true, out ++ [⟨xc, xs, xt, xn, xg⟩] ++ [⟨yc, ys, yt, yn, yg⟩], by omega, by go_num, rfl, Lib.hid ⟨own_len HP5.out.1 (by simp), HP5.out.2.1, HP5.out.2.2, by rw [HTK.out]; exact HL.out.st.here _ HXY.out, HLN.out⟩⟩
          case measure => simp [intOf]; omega
        · skip
          have hP : ∀ W, Below wr.heap.size wr W → Calls Try.prog 43 #[.agg (cellsE xc xs xt xn xg), .agg (cellsE yc ys yt yn yg)] W fun e w' => e = .returned (.bool false) ∧ Hid (LayM w w' ⟨xc, xs, xt, xn, xg⟩ es k (.slice av out.length cv) false out) ∧ w'.cell? ⟨w.heap.size, 0, none⟩ = some (.int .i64 xc) ∧ w'.cell? ⟨w.heap.size, 1, none⟩ = some (.int .i64 xs) ∧ w'.cell? ⟨w.heap.size, 2, none⟩ = some (.int .i64 xt) ∧ w'.cell? ⟨w.heap.size, 3, none⟩ = some (.int .i64 xn) ∧ w'.cell? ⟨w.heap.size, 4, none⟩ = some (.int .i64 xg) ∧ w'.cell? ⟨R, 0, none⟩ = some (.slice (some ⟨b, 0, none⟩) es.length cap0) ∧ w'.cell? ⟨b, k * 5, none⟩ = some (.int .i64 yc) ∧ w'.cell? ⟨b, k * 5 + 1, none⟩ = some (.int .i64 ys) ∧ w'.cell? ⟨b, k * 5 + 2, none⟩ = some (.int .i64 yt) ∧ w'.cell? ⟨b, k * 5 + 3, none⟩ = some (.int .i64 yn) ∧ w'.cell? ⟨b, k * 5 + 4, none⟩ = some (.int .i64 yg) := by
            intro W hW
            refine (ahead_any ⟨xc, xs, xt, xn, xg⟩ ⟨yc, ys, yt, yn, yg⟩ W).mono ?_
            rintro e w' ⟨he, hb⟩
            have h := hW.trans (hb.mono hW.size)
            exact ⟨he.trans (congrArg _ (congrArg _ (@decide_eq_false _ (Classical.propDecidable _) hxy))), Lib.hid (HL.out.below h), cell_below h x0, cell_below h x1, cell_below h x2, cell_below h x3, cell_below h x4, cell_below h hB, cell_below h c0, cell_below h c1, cell_below h c2, cell_below h c3, cell_below h c4⟩
          have HP0 := Lib.hid hP; clear hP
          have HXY := Lib.hid hxy; clear hxy
          go_wp2
          go_region_held3 (fun w' => w'.cell? ⟨w.heap.size, 0, none⟩ = some (.int .i64 xc) ∧ w'.cell? ⟨w.heap.size, 1, none⟩ = some (.int .i64 xs) ∧ w'.cell? ⟨w.heap.size, 2, none⟩ = some (.int .i64 xt) ∧ w'.cell? ⟨w.heap.size, 3, none⟩ = some (.int .i64 xn) ∧ w'.cell? ⟨w.heap.size, 4, none⟩ = some (.int .i64 xg) ∧ w'.cell? ⟨R, 0, none⟩ = some (.slice (some ⟨b, 0, none⟩) es.length cap0) ∧ w'.cell? ⟨b, k * 5, none⟩ = some (.int .i64 yc) ∧ w'.cell? ⟨b, k * 5 + 1, none⟩ = some (.int .i64 ys) ∧ w'.cell? ⟨b, k * 5 + 2, none⟩ = some (.int .i64 yt) ∧ w'.cell? ⟨b, k * 5 + 3, none⟩ = some (.int .i64 yn) ∧ w'.cell? ⟨b, k * 5 + 4, none⟩ = some (.int .i64 yg))
            ((repeat' apply And.intro) <;> (repeat (first | with_reducible assumption | with_reducible refine cell_drewN ?_ | with_reducible refine cell_drew ?_)))
            (first
              | (go_at_call 43; refine (HP0.out _ (by repeat (first | with_reducible exact RowKit.Below.refl _ _ | with_reducible refine below_drewN ?_ _ | with_reducible refine RowKit.Below.drew ?_))).mono ?_; rintro e v3 ⟨rfl, HQ, g0, g1, g2, g3, g4, g5, g6, g7, g8, g9, g10⟩))
          go_wp2_with (at_builtin; refine wpList_append_own _ rfl _ _ 71 rfl (w.heap.size + 1) 40 i0 (.agg #[.int .i64 0, .int .i64 0, .int .i64 0, .int .i64 0, .int .i64 0]) 5 40 Try.underlying71 hi' hz0 hz1 hz2 rfl (by decide) _ (out.length) (encs (out)) rfl (HQ.out.row.alloc (.cells (cellsE yc ys yt yn yg) 40 (0, 0))) ⟨v3.heap.size, 0, none⟩ 1 1 [.int .i64 yc, .int .i64 ys, .int .i64 yt, .int .i64 yn, .int .i64 yg] rfl rfl (World.news_of_block (cs := #[.int .i64 yc, .int .i64 ys, .int .i64 yt, .int .i64 yn, .int .i64 yg]) (by exact heap_alloc_new _ _)) (by simp [Value.oneCell']) (by unfold maxLen; have := HL.out.len; omega) (by have := HL.out.len; omega) (by have := HQ.out.b.size; simp at this ⊢; omega) ?_; intro v' w' hown' hgrow _; obtain ⟨av', cv', rfl⟩ := own_form hown'; have hp := (HQ.out.below ((Below.refl _ _).alloc (Nat.le_refl _) (.cells (cellsE yc ys yt yn yg) 40 (0, 0)))).push (y := ⟨yc, ys, yt, yn, yg⟩) hgrow hown'; have hB := cell_in (below_cells hp.2.1 HH.out) (i := 0) rfl; have hfR : w'.frozen? ⟨R, 0, none⟩ = false := frozen_in (below_cells hp.2.1 HH.out); have HP := Lib.hid hp; clear hp hown' hgrow)
          go_roundw
          case rel => exact ⟨k + 1, false, out ++ [⟨yc, ys, yt, yn, yg⟩], by omega, by go_num, rfl, Lib.hid ⟨HP.out.1, HP.out.2.1, HP.out.2.2, by rw [HTK.out]; exact HL.out.st.past _ HXY.out, by have := HL.out.len; simp; omega⟩⟩
          case measure => simp [intOf]; omega
    · have k1 : ¬ (k : Int) < (es.length : Int) := by omega
      cases d with
      | true =>
        go_wp2
        go_end0
        have hst := HL.out.st.end_yes
        rw [List.take_of_length_le (by omega)] at hst
        rw [← hst]
        exact ⟨rfl, lay_end HH.out HL.out.b HL.out.row⟩
      | false =>
        have hst := HL.out.st.end_no
        rw [List.take_of_length_le (by omega)] at hst
        have HST := Lib.hid hst; clear hst
        go_wp2_with (at_builtin; refine wpList_append_own _ rfl _ _ 71 rfl (w.heap.size + 1) 40 i0 (.agg #[.int .i64 0, .int .i64 0, .int .i64 0, .int .i64 0, .int .i64 0]) 5 40 Try.underlying71 hi' hz0 hz1 hz2 rfl (by decide) _ out.length (encs out) rfl (HL.out.row.alloc _) ⟨wr.heap.size, 0, none⟩ 1 1 [.int .i64 xc, .int .i64 xs, .int .i64 xt, .int .i64 xn, .int .i64 xg] rfl rfl (World.news_of_block (cs := #[.int .i64 xc, .int .i64 xs, .int .i64 xt, .int .i64 xn, .int .i64 xg]) (by exact heap_alloc_new _ _)) (by simp [Value.oneCell']) (by unfold maxLen; have := HL.out.len; omega) (by have := HL.out.len; omega) (by have := HL.out.b.size; simp; omega) ?_; intro v' w' hown' hgrow _; obtain ⟨av', cv', rfl⟩ := own_form hown'; have hp := (HL.out.below ((Below.refl _ _).alloc (Nat.le_refl _) (.cells (cellsE xc xs xt xn xg) 40 (0, 0)))).push (y := ⟨xc, xs, xt, xn, xg⟩) hgrow hown'; have hB := cell_in (below_cells hp.2.1 HH.out) (i := 0) rfl; have hfR : w'.frozen? ⟨R, 0, none⟩ = false := frozen_in (below_cells hp.2.1 HH.out); have HP := Lib.hid hp; clear hp hown' hgrow)
        go_end0
        rw [← HST.out]
        exact ⟨rfl, lay_end HH.out HP.out.2.1 HP.out.1⟩

end Go.Proofs.Ytkpjfmlhjpbdhaa
