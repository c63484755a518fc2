/- Contract: a queue and the reference's queue of the same entries tell the same. -/
import Derived.Test.YtkpjfmlhjpbdhaaRlab
namespace Go.Proofs.Ytkpjfmlhjpbdhaa
open Go.RowKit Go.Lib Go.Sort
attribute [local go_sem ↓] Go.wp_at_zero Go.wp_at_succ

def headE : List Ent → Ent
  | [] => ⟨0, 0, 0, 0, 0⟩
  | x :: _ => x
def headB : List Ent → Bool
  | [] => false
  | _ :: _ => true
def getE (g : Int) (es : List Ent) : Ent := if idxT g es 0 = -1 then ⟨0, 0, 0, 0, 0⟩ else es.getD (idxT g es 0).toNat ⟨0, 0, 0, 0, 0⟩
def getB (g : Int) (es : List Ent) : Bool := decide (idxT g es 0 ≠ -1)

theorem idxT_cases (g : Int) : ∀ (es : List Ent) (j : Nat), idxT g es j = -1 ∨ ∃ k : Nat, k < es.length ∧ idxT g es j = ((j + k : Nat) : Int)
  | [], j => .inl rfl
  | x :: l, j => by
    rw [idxT]
    by_cases h : x.g = g
    · exact .inr ⟨0, by simp, by rw [if_pos h, Nat.add_zero]⟩
    · rw [if_neg h]
      rcases idxT_cases g l (j + 1) with h' | ⟨k, hk, h'⟩
      · exact .inl h'
      · exact .inr ⟨k + 1, by simp; omega, by rw [h']; congr 1; omega⟩

theorem head_any (base B : Nat) (es : List Ent) (room : Int) (w : World) (hq : IsQ w base B es room) : Calls Try.prog 23 #[.pointer (some ⟨B, 0, none⟩)] w fun e w' =>
    e = .returned (.tuple #[entVal (headE es), .bool (headB es)]) ∧ Below w.heap.size w w' := by
  cases es with
  | nil => exact head_no base B room w hq
  | cons x l => exact head_yes base B x l room w hq
theorem rhead_any (R : Nat) (es : List Ent) (room : Int) (w : World) (hq : IsR w R es room) : Calls Try.prog 14 #[.pointer (some ⟨R, 0, none⟩)] w fun e w' =>
    e = .returned (.tuple #[entVal (headE es), .bool (headB es)]) ∧ Below w.heap.size w w' := by
  cases es with
  | nil => exact rhead_no R room w hq
  | cons x l => exact rhead_yes R x l room w hq
theorem getE_of {g : Int} {es : List Ent} {k : Nat} (hk : k < es.length) (h : idxT g es 0 = k) : getE g es = es[k] ∧ getB g es = true := by
  unfold getE getB
  rw [h, if_neg (by omega)]
  refine ⟨?_, by simp⟩
  simp [List.getD_eq_getElem?_getD, List.getElem?_eq_getElem hk]
theorem getE_no {g : Int} {es : List Ent} (h : idxT g es 0 = -1) : getE g es = ⟨0, 0, 0, 0, 0⟩ ∧ getB g es = false := by
  unfold getE getB
  rw [h]
  exact ⟨if_pos rfl, rfl⟩
theorem get_any (base B : Nat) (es : List Ent) (room g : Int) (w : World) (hq : IsQ w base B es room) : Calls Try.prog 21 #[.pointer (some ⟨B, 0, none⟩), .int .i64 g] w fun e w' =>
    e = .returned (.tuple #[entVal (getE g es), .bool (getB g es)]) ∧ Below w.heap.size w w' := by
  rcases idxT_cases g es 0 with h | ⟨k, hk, h⟩
  · rw [(getE_no h).1, (getE_no h).2]; exact get_no base B es room g w hq h
  · rw [Nat.zero_add] at h
    rw [(getE_of hk h).1, (getE_of hk h).2]; exact get_yes base B es room g w k hk hq h
theorem rget_any (R : Nat) (es : List Ent) (room g : Int) (w : World) (hq : IsR w R es room) : Calls Try.prog 33 #[.pointer (some ⟨R, 0, none⟩), .int .i64 g] w fun e w' =>
    e = .returned (.tuple #[entVal (getE g es), .bool (getB g es)]) ∧ Below w.heap.size w w' := by
  rcases idxT_cases g es 0 with h | ⟨k, hk, h⟩
  · rw [(getE_no h).1, (getE_no h).2]; exact rget_no R es room g w hq h
  · rw [Nat.zero_add] at h
    rw [(getE_of hk h).1, (getE_of hk h).2]; exact rget_yes R es room g w k hk hq h

/-- both queues, and what lay before -/
structure Both (B R : Nat) (room : Int) (w0 w : World) (es : List Ent) : Prop where
  q : IsQ w B B es room
  r : IsR w R es room
  b : Below w0.heap.size w0 w
theorem Both.below {B R : Nat} {room : Int} {w0 w w' : World} {es : List Ent} (h : Both B R room w0 w es) (hb : Below w.heap.size w w') : Both B R room w0 w' es :=
  ⟨h.q.below hb, h.r.below hb, h.b.trans (hb.mono h.b.size)⟩

theorem box5 {w : World} {b : Nat} {c s t n g : Int} {ty : Nat} (h : w.heap[b]? = some (.cells #[.int .i64 c, .int .i64 s, .int .i64 t, .int .i64 n, .int .i64 g] ty (0, 0))) :
    w.cell? ⟨b, 0, none⟩ = some (.int .i64 c) ∧ w.cell? ⟨b, 1, none⟩ = some (.int .i64 s) ∧ w.cell? ⟨b, 2, none⟩ = some (.int .i64 t) ∧ w.cell? ⟨b, 3, none⟩ = some (.int .i64 n) ∧ w.cell? ⟨b, 4, none⟩ = some (.int .i64 g) :=
  ⟨cell_in h rfl, cell_in h rfl, cell_in h rfl, cell_in h rfl, cell_in h rfl⟩

set_option maxHeartbeats 8000000 in
set_option maxRecDepth 100000 in
theorem same_any (B R : Nat) (es : List Ent) (room g : Int) (w : World) (hn : es.length < 1000000) (hb : Both B R room w w es) : Calls Try.prog 17 #[.pointer (some ⟨B, 0, none⟩), .pointer (some ⟨R, 0, none⟩), .int .i64 g] w fun e w' =>
    e = .returned (.bool true) ∧ Below w.heap.size w w' := by
  have hc1 := fun W (hW : Both B R room w W es) => head_any B B es room W hW.q
  have hc2 := fun W (hW : Both B R room w W es) => rhead_any R es room W hW.r
  have hc3 := fun W (hW : Both B R room w W es) => get_any B B es room g W hW.q
  have hc4 := fun W (hW : Both B R room w W es) => rget_any R es room g W hW.r
  generalize headE es = h at hc1 hc2
  generalize headB es = h' at hc1 hc2
  generalize getE g es = y at hc3 hc4
  generalize getB g es = y' at hc3 hc4
  obtain ⟨xc, xs, xt, xn, xg⟩ := h
  obtain ⟨yc, ys, yt, yn, yg⟩ := y
  have HB0 := Lib.hid hb; clear hb
  have H1 := Lib.hid hc1; clear hc1
  have H2 := Lib.hid hc2; clear hc2
  have H3 := Lib.hid hc3; clear hc3
  have H4 := Lib.hid hc4; clear hc4
  go_enter Try.func17, Try.ntmps17
  go_wp2_with fail
  refine (H1.out _ HB0.out).mono ?_
  rintro e w1 ⟨rfl, hE⟩
  have HB1 := Lib.hid (And.intro ((HB0.out.below hE).below ((Below.refl _ _).alloc (Nat.le_refl _) (.cells (cellsE xc xs xt xn xg) 35 (0, 0)))) (heap_alloc_new w1 (.cells (cellsE xc xs xt xn xg) 35 (0, 0)))); clear hE HB0
  go_wp2_with fail
  refine (H2.out _ HB1.out.1).mono ?_
  rintro e w2 ⟨rfl, hE⟩
  have HB2 := Lib.hid (And.intro ((HB1.out.1.below hE).below ((Below.refl _ _).alloc (Nat.le_refl _) (.cells (cellsE xc xs xt xn xg) 40 (0, 0)))) (And.intro (below_cells ((Below.refl _ _).alloc (Nat.le_refl _) (.cells (cellsE xc xs xt xn xg) 40 (0, 0))) (below_cells hE HB1.out.2)) (heap_alloc_new w2 (.cells (cellsE xc xs xt xn xg) 40 (0, 0))))); clear hE HB1
  go_wp2_with fail
  refine (H3.out _ HB2.out.1).mono ?_
  rintro e w3 ⟨rfl, hE⟩
  have HB3 := Lib.hid (And.intro ((HB2.out.1.below hE).below ((Below.refl _ _).alloc (Nat.le_refl _) (.cells (cellsE yc ys yt yn yg) 35 (0, 0)))) (And.intro (below_cells ((Below.refl _ _).alloc (Nat.le_refl _) (.cells (cellsE yc ys yt yn yg) 35 (0, 0))) (below_cells hE HB2.out.2.1)) (And.intro (below_cells ((Below.refl _ _).alloc (Nat.le_refl _) (.cells (cellsE yc ys yt yn yg) 35 (0, 0))) (below_cells hE HB2.out.2.2)) (heap_alloc_new w3 (.cells (cellsE yc ys yt yn yg) 35 (0, 0)))))); clear hE HB2
  go_wp2_with fail
  refine (H4.out _ HB3.out.1).mono ?_
  rintro e w4 ⟨rfl, hE⟩
  have HB4 := Lib.hid (And.intro ((HB3.out.1.below hE).below ((Below.refl _ _).alloc (Nat.le_refl _) (.cells (cellsE yc ys yt yn yg) 40 (0, 0)))) (And.intro (below_cells ((Below.refl _ _).alloc (Nat.le_refl _) (.cells (cellsE yc ys yt yn yg) 40 (0, 0))) (below_cells hE HB3.out.2.1)) (And.intro (below_cells ((Below.refl _ _).alloc (Nat.le_refl _) (.cells (cellsE yc ys yt yn yg) 40 (0, 0))) (below_cells hE HB3.out.2.2.1)) (And.intro (below_cells ((Below.refl _ _).alloc (Nat.le_refl _) (.cells (cellsE yc ys yt yn yg) 40 (0, 0))) (below_cells hE HB3.out.2.2.2)) (heap_alloc_new w4 (.cells (cellsE yc ys yt yn yg) 40 (0, 0))))))); clear hE HB3
  go_wp2_with fail
  refine (all_row B B es room _ HB4.out.1.q hn).mono ?_
  rintro e w5 ⟨v, rfl, hrow, hE⟩
  obtain ⟨a, c, rfl⟩ := row_len hrow
  have HB5 := Lib.hid (HB4.out.1.below hE)
  obtain ⟨va, hhR, hrr⟩ := HB5.out.r
  obtain ⟨ra, rc, rfl⟩ := rrow_len hrr
  have r0 : w5.cell? ⟨R, 0, none⟩ = some (.slice ra es.length rc) := cell_in hhR rfl
  have r1 : w5.cell? ⟨R, 1, none⟩ = some (.int .i64 room) := cell_in hhR rfl
  obtain ⟨a0, a1, a2, a3, a4⟩ := box5 (below_cells hE HB4.out.2.1)
  obtain ⟨b0, b1, b2, b3, b4⟩ := box5 (below_cells hE HB4.out.2.2.1)
  obtain ⟨c0, c1, c2, c3, c4⟩ := box5 (below_cells hE HB4.out.2.2.2.1)
  obtain ⟨d0, d1, d2, d3, d4⟩ := box5 (below_cells hE HB4.out.2.2.2.2)
  have HROWS := Lib.hid (And.intro hrow hrr); clear hrow hhR hrr hE HB4
  have hP : ∀ (x : Ent) W, Below w5.heap.size w5 W → Calls Try.prog 11 #[entVal x] W fun e w' => e = .returned (entVal x) ∧ Hid (Below w5.heap.size w5 w') ∧ w'.cell? ⟨w1.heap.size, 0, none⟩ = some (.int .i64 xc) ∧ w'.cell? ⟨w1.heap.size, 1, none⟩ = some (.int .i64 xs) ∧ w'.cell? ⟨w1.heap.size, 2, none⟩ = some (.int .i64 xt) ∧ w'.cell? ⟨w1.heap.size, 3, none⟩ = some (.int .i64 xn) ∧ w'.cell? ⟨w1.heap.size, 4, none⟩ = some (.int .i64 xg) ∧ w'.cell? ⟨w2.heap.size, 0, none⟩ = some (.int .i64 xc) ∧ w'.cell? ⟨w2.heap.size, 1, none⟩ = some (.int .i64 xs) ∧ w'.cell? ⟨w2.heap.size, 2, none⟩ = some (.int .i64 xt) ∧ w'.cell? ⟨w2.heap.size, 3, none⟩ = some (.int .i64 xn) ∧ w'.cell? ⟨w2.heap.size, 4, none⟩ = some (.int .i64 xg) ∧ w'.cell? ⟨w3.heap.size, 0, none⟩ = some (.int .i64 yc) ∧ w'.cell? ⟨w3.heap.size, 1, none⟩ = some (.int .i64 ys) ∧ w'.cell? ⟨w3.heap.size, 2, none⟩ = some (.int .i64 yt) ∧ w'.cell? ⟨w3.heap.size, 3, none⟩ = some (.int .i64 yn) ∧ w'.cell? ⟨w3.heap.size, 4, none⟩ = some (.int .i64 yg) ∧ w'.cell? ⟨w4.heap.size, 0, none⟩ = some (.int .i64 yc) ∧ w'.cell? ⟨w4.heap.size, 1, none⟩ = some (.int .i64 ys) ∧ w'.cell? ⟨w4.heap.size, 2, none⟩ = some (.int .i64 yt) ∧ w'.cell? ⟨w4.heap.size, 3, none⟩ = some (.int .i64 yn) ∧ w'.cell? ⟨w4.heap.size, 4, none⟩ = some (.int .i64 yg) ∧ w'.cell? ⟨R, 0, none⟩ = some (.slice ra es.length rc) ∧ w'.cell? ⟨R, 1, none⟩ = some (.int .i64 room) := by
    intro x W hW
    refine (plain_any x W).mono ?_
    rintro e w' ⟨he, hb⟩
    have h := hW.trans (hb.mono hW.size)
    exact ⟨he, Lib.hid h, cell_below h a0, cell_below h a1, cell_below h a2, cell_below h a3, cell_below h a4, cell_below h b0, cell_below h b1, cell_below h b2, cell_below h b3, cell_below h b4, cell_below h c0, cell_below h c1, cell_below h c2, cell_below h c3, cell_below h c4, cell_below h d0, cell_below h d1, cell_below h d2, cell_below h d3, cell_below h d4, cell_below h r0, cell_below h r1⟩
  have hL : ∀ W, Below w5.heap.size w5 W → Calls Try.prog 22 #[.pointer (some ⟨B, 0, none⟩)] W fun e w' => e = .returned (.int .i64 es.length) ∧ Hid (Below w5.heap.size w5 w') ∧ w'.cell? ⟨w1.heap.size, 0, none⟩ = some (.int .i64 xc) ∧ w'.cell? ⟨w1.heap.size, 1, none⟩ = some (.int .i64 xs) ∧ w'.cell? ⟨w1.heap.size, 2, none⟩ = some (.int .i64 xt) ∧ w'.cell? ⟨w1.heap.size, 3, none⟩ = some (.int .i64 xn) ∧ w'.cell? ⟨w1.heap.size, 4, none⟩ = some (.int .i64 xg) ∧ w'.cell? ⟨w2.heap.size, 0, none⟩ = some (.int .i64 xc) ∧ w'.cell? ⟨w2.heap.size, 1, none⟩ = some (.int .i64 xs) ∧ w'.cell? ⟨w2.heap.size, 2, none⟩ = some (.int .i64 xt) ∧ w'.cell? ⟨w2.heap.size, 3, none⟩ = some (.int .i64 xn) ∧ w'.cell? ⟨w2.heap.size, 4, none⟩ = some (.int .i64 xg) ∧ w'.cell? ⟨w3.heap.size, 0, none⟩ = some (.int .i64 yc) ∧ w'.cell? ⟨w3.heap.size, 1, none⟩ = some (.int .i64 ys) ∧ w'.cell? ⟨w3.heap.size, 2, none⟩ = some (.int .i64 yt) ∧ w'.cell? ⟨w3.heap.size, 3, none⟩ = some (.int .i64 yn) ∧ w'.cell? ⟨w3.heap.size, 4, none⟩ = some (.int .i64 yg) ∧ w'.cell? ⟨w4.heap.size, 0, none⟩ = some (.int .i64 yc) ∧ w'.cell? ⟨w4.heap.size, 1, none⟩ = some (.int .i64 ys) ∧ w'.cell? ⟨w4.heap.size, 2, none⟩ = some (.int .i64 yt) ∧ w'.cell? ⟨w4.heap.size, 3, none⟩ = some (.int .i64 yn) ∧ w'.cell? ⟨w4.heap.size, 4, none⟩ = some (.int .i64 yg) ∧ w'.cell? ⟨R, 0, none⟩ = some (.slice ra es.length rc) ∧ w'.cell? ⟨R, 1, none⟩ = some (.int .i64 room) := by
    intro W hW
    refine (len_any B B es room W (HB5.out.below hW).q).mono ?_
    rintro e w' ⟨he, rfl⟩
    have h := hW
    exact ⟨he, Lib.hid h, cell_below h a0, cell_below h a1, cell_below h a2, cell_below h a3, cell_below h a4, cell_below h b0, cell_below h b1, cell_below h b2, cell_below h b3, cell_below h b4, cell_below h c0, cell_below h c1, cell_below h c2, cell_below h c3, cell_below h c4, cell_below h d0, cell_below h d1, cell_below h d2, cell_below h d3, cell_below h d4, cell_below h r0, cell_below h r1⟩
  have hM : ∀ W, Below w5.heap.size w5 W → Calls Try.prog 26 #[.pointer (some ⟨B, 0, none⟩)] W fun e w' => e = .returned (.int .i64 room) ∧ Hid (Below w5.heap.size w5 w') ∧ w'.cell? ⟨w1.heap.size, 0, none⟩ = some (.int .i64 xc) ∧ w'.cell? ⟨w1.heap.size, 1, none⟩ = some (.int .i64 xs) ∧ w'.cell? ⟨w1.heap.size, 2, none⟩ = some (.int .i64 xt) ∧ w'.cell? ⟨w1.heap.size, 3, none⟩ = some (.int .i64 xn) ∧ w'.cell? ⟨w1.heap.size, 4, none⟩ = some (.int .i64 xg) ∧ w'.cell? ⟨w2.heap.size, 0, none⟩ = some (.int .i64 xc) ∧ w'.cell? ⟨w2.heap.size, 1, none⟩ = some (.int .i64 xs) ∧ w'.cell? ⟨w2.heap.size, 2, none⟩ = some (.int .i64 xt) ∧ w'.cell? ⟨w2.heap.size, 3, none⟩ = some (.int .i64 xn) ∧ w'.cell? ⟨w2.heap.size, 4, none⟩ = some (.int .i64 xg) ∧ w'.cell? ⟨w3.heap.size, 0, none⟩ = some (.int .i64 yc) ∧ w'.cell? ⟨w3.heap.size, 1, none⟩ = some (.int .i64 ys) ∧ w'.cell? ⟨w3.heap.size, 2, none⟩ = some (.int .i64 yt) ∧ w'.cell? ⟨w3.heap.size, 3, none⟩ = some (.int .i64 yn) ∧ w'.cell? ⟨w3.heap.size, 4, none⟩ = some (.int .i64 yg) ∧ w'.cell? ⟨w4.heap.size, 0, none⟩ = some (.int .i64 yc) ∧ w'.cell? ⟨w4.heap.size, 1, none⟩ = some (.int .i64 ys) ∧ w'.cell? ⟨w4.heap.size, 2, none⟩ = some (.int .i64 yt) ∧ w'.cell? ⟨w4.heap.size, 3, none⟩ = some (.int .i64 yn) ∧ w'.cell? ⟨w4.heap.size, 4, none⟩ = some (.int .i64 yg) ∧ w'.cell? ⟨R, 0, none⟩ = some (.slice ra es.length rc) ∧ w'.cell? ⟨R, 1, none⟩ = some (.int .i64 room) := by
    intro W hW
    refine (room_any B B es room W (HB5.out.below hW).q).mono ?_
    rintro e w' ⟨he, rfl⟩
    have h := hW
    exact ⟨he, Lib.hid h, cell_below h a0, cell_below h a1, cell_below h a2, cell_below h a3, cell_below h a4, cell_below h b0, cell_below h b1, cell_below h b2, cell_below h b3, cell_below h b4, cell_below h c0, cell_below h c1, cell_below h c2, cell_below h c3, cell_below h c4, cell_below h d0, cell_below h d1, cell_below h d2, cell_below h d3, cell_below h d4, cell_below h r0, cell_below h r1⟩
  have HP := Lib.hid hP; clear hP
  have HL := Lib.hid hL; clear hL
  have HM := Lib.hid hM; clear hM
  go_wp2
  go_region_held3 (fun W => W.cell? ⟨w1.heap.size, 0, none⟩ = some (.int .i64 xc) ∧ W.cell? ⟨w1.heap.size, 1, none⟩ = some (.int .i64 xs) ∧ W.cell? ⟨w1.heap.size, 2, none⟩ = some (.int .i64 xt) ∧ W.cell? ⟨w1.heap.size, 3, none⟩ = some (.int .i64 xn) ∧ W.cell? ⟨w1.heap.size, 4, none⟩ = some (.int .i64 xg) ∧ W.cell? ⟨w2.heap.size, 0, none⟩ = some (.int .i64 xc) ∧ W.cell? ⟨w2.heap.size, 1, none⟩ = some (.int .i64 xs) ∧ W.cell? ⟨w2.heap.size, 2, none⟩ = some (.int .i64 xt) ∧ W.cell? ⟨w2.heap.size, 3, none⟩ = some (.int .i64 xn) ∧ W.cell? ⟨w2.heap.size, 4, none⟩ = some (.int .i64 xg) ∧ W.cell? ⟨w3.heap.size, 0, none⟩ = some (.int .i64 yc) ∧ W.cell? ⟨w3.heap.size, 1, none⟩ = some (.int .i64 ys) ∧ W.cell? ⟨w3.heap.size, 2, none⟩ = some (.int .i64 yt) ∧ W.cell? ⟨w3.heap.size, 3, none⟩ = some (.int .i64 yn) ∧ W.cell? ⟨w3.heap.size, 4, none⟩ = some (.int .i64 yg) ∧ W.cell? ⟨w4.heap.size, 0, none⟩ = some (.int .i64 yc) ∧ W.cell? ⟨w4.heap.size, 1, none⟩ = some (.int .i64 ys) ∧ W.cell? ⟨w4.heap.size, 2, none⟩ = some (.int .i64 yt) ∧ W.cell? ⟨w4.heap.size, 3, none⟩ = some (.int .i64 yn) ∧ W.cell? ⟨w4.heap.size, 4, none⟩ = some (.int .i64 yg) ∧ W.cell? ⟨R, 0, none⟩ = some (.slice ra es.length rc) ∧ W.cell? ⟨R, 1, none⟩ = some (.int .i64 room))
    ((repeat' apply And.intro) <;> (repeat (first | with_reducible assumption | with_reducible refine cell_drewN ?_ | with_reducible refine cell_drew ?_)))
    (first
      | (go_at_call 11; ((with_reducible refine (HP.out ⟨xc, xs, xt, xn, xg⟩ _ (by repeat (first | with_reducible exact HQ.out | with_reducible exact RowKit.Below.refl _ _ | with_reducible refine below_drewN ?_ _ | with_reducible refine RowKit.Below.drew ?_))).mono ?_); rintro e v3 ⟨rfl, HQ, g0, g1, g2, g3, g4, g5, g6, g7, g8, g9, g10, g11, g12, g13, g14, g15, g16, g17, g18, g19, g20, g21⟩))
      | (go_at_call 11; ((with_reducible refine (HP.out ⟨yc, ys, yt, yn, yg⟩ _ (by repeat (first | with_reducible exact HQ.out | with_reducible exact RowKit.Below.refl _ _ | with_reducible refine below_drewN ?_ _ | with_reducible refine RowKit.Below.drew ?_))).mono ?_); rintro e v3 ⟨rfl, HQ, g0, g1, g2, g3, g4, g5, g6, g7, g8, g9, g10, g11, g12, g13, g14, g15, g16, g17, g18, g19, g20, g21⟩))
      | (go_at_call 22; ((with_reducible refine (HL.out _ (by repeat (first | with_reducible exact HQ.out | with_reducible exact RowKit.Below.refl _ _ | with_reducible refine below_drewN ?_ _ | with_reducible refine RowKit.Below.drew ?_))).mono ?_); rintro e v3 ⟨rfl, HQ, g0, g1, g2, g3, g4, g5, g6, g7, g8, g9, g10, g11, g12, g13, g14, g15, g16, g17, g18, g19, g20, g21⟩))
      | (go_at_call 26; ((with_reducible refine (HM.out _ (by repeat (first | with_reducible exact HQ.out | with_reducible exact RowKit.Below.refl _ _ | with_reducible refine below_drewN ?_ _ | with_reducible refine RowKit.Below.drew ?_))).mono ?_); rintro e v3 ⟨rfl, HQ, g0, g1, g2, g3, g4, g5, g6, g7, g8, g9, g10, g11, g12, g13, g14, g15, g16, g17, g18, g19, g20, g21⟩)))
  have HA6 := Lib.hid (And.intro (HB5.out.below HQ.out) (reads_of_row (below_row HQ.out HROWS.out.1)))
  clear HP HL HM HQ HROWS HB5
  go_wp2_with fail
  go_loopw [16] (fun i wr => ∃ k : Nat, k ≤ es.length ∧ i = .int .i64 k ∧ Hid (Both B R room w wr es ∧ Reads wr (.slice a es.length c) es)) (fun i _ => es.length - (intOf i).toNat)
  case atStart => exact ⟨0, Nat.zero_le _, rfl, HA6⟩
  case round =>
    clear HA6
    obtain ⟨k, hk, rfl, HI⟩ := hrel
    by_cases hlt : k < es.length
    · have k0 : (0 : Int) ≤ (k : Int) := by omega
      have k1 : (k : Int) < (es.length : Int) := by omega
      obtain ⟨b, cap, e1, hcap, hmx, p0, p1, p2, p3, p4⟩ : ∃ b cap, Value.slice a es.length c = .slice (some ⟨b, 0, none⟩) es.length cap ∧ es.length ≤ cap ∧ cap ≤ maxLen ∧ wr.cell? ⟨b, k * 5, none⟩ = some (.int .i64 (es[k]).c) ∧ wr.cell? ⟨b, k * 5 + 1, none⟩ = some (.int .i64 (es[k]).s) ∧ wr.cell? ⟨b, k * 5 + 2, none⟩ = some (.int .i64 (es[k]).t) ∧ wr.cell? ⟨b, k * 5 + 3, none⟩ = some (.int .i64 (es[k]).n) ∧ wr.cell? ⟨b, k * 5 + 4, none⟩ = some (.int .i64 (es[k]).g) := by
        obtain ⟨a', c', e, h⟩ := HI.out.2
        cases e
        obtain ⟨b, rfl, h1, h2, h3⟩ := h k hlt
        exact ⟨b, c, rfl, h1, h2, h3⟩
      cases e1
      obtain ⟨v2, hhR, hrr⟩ := HI.out.1.r
      obtain ⟨rb, rcap, rfl, hrlt, hrcap, hrm, q0, q1, q2, q3, q4⟩ := rrow_at hrr k hlt
      have r0 : wr.cell? ⟨R, 0, none⟩ = some (.slice (some ⟨rb, 0, none⟩) es.length rcap) := cell_in hhR rfl
      clear hhR hrr
      unfold maxLen at hmx hrm
      generalize es[k] = z at p0 p1 p2 p3 p4 q0 q1 q2 q3 q4
      obtain ⟨zc, zs, zt, zn, zg⟩ := z
      simp only at p0 p1 p2 p3 p4 q0 q1 q2 q3 q4
      have hP : ∀ W, Below wr.heap.size wr W → Calls Try.prog 11 #[entVal ⟨zc, zs, zt, zn, zg⟩] W fun e w' => e = .returned (entVal ⟨zc, zs, zt, zn, zg⟩) ∧ Hid (Below wr.heap.size wr w') ∧ w'.cell? ⟨b, k * 5, none⟩ = some (.int .i64 zc) ∧ w'.cell? ⟨b, k * 5 + 1, none⟩ = some (.int .i64 zs) ∧ w'.cell? ⟨b, k * 5 + 2, none⟩ = some (.int .i64 zt) ∧ w'.cell? ⟨b, k * 5 + 3, none⟩ = some (.int .i64 zn) ∧ w'.cell? ⟨b, k * 5 + 4, none⟩ = some (.int .i64 zg) ∧ w'.cell? ⟨rb, k * 5, none⟩ = some (.int .i64 zc) ∧ w'.cell? ⟨rb, k * 5 + 1, none⟩ = some (.int .i64 zs) ∧ w'.cell? ⟨rb, k * 5 + 2, none⟩ = some (.int .i64 zt) ∧ w'.cell? ⟨rb, k * 5 + 3, none⟩ = some (.int .i64 zn) ∧ w'.cell? ⟨rb, k * 5 + 4, none⟩ = some (.int .i64 zg) ∧ w'.cell? ⟨R, 0, none⟩ = some (.slice (some ⟨rb, 0, none⟩) es.length rcap) := by
        intro W hW
        refine (plain_any _ W).mono ?_
        rintro e w' ⟨he, hb⟩
        have h := hW.trans (hb.mono hW.size)
        exact ⟨he, Lib.hid h, cell_below h p0, cell_below h p1, cell_below h p2, cell_below h p3, cell_below h p4, cell_below h q0, cell_below h q1, cell_below h q2, cell_below h q3, cell_below h q4, cell_below h r0⟩
      have HP := Lib.hid hP; clear hP
      go_wp2
      go_region_held3 (fun W => W.cell? ⟨b, k * 5, none⟩ = some (.int .i64 zc) ∧ W.cell? ⟨b, k * 5 + 1, none⟩ = some (.int .i64 zs) ∧ W.cell? ⟨b, k * 5 + 2, none⟩ = some (.int .i64 zt) ∧ W.cell? ⟨b, k * 5 + 3, none⟩ = some (.int .i64 zn) ∧ W.cell? ⟨b, k * 5 + 4, none⟩ = some (.int .i64 zg) ∧ W.cell? ⟨rb, k * 5, none⟩ = some (.int .i64 zc) ∧ W.cell? ⟨rb, k * 5 + 1, none⟩ = some (.int .i64 zs) ∧ W.cell? ⟨rb, k * 5 + 2, none⟩ = some (.int .i64 zt) ∧ W.cell? ⟨rb, k * 5 + 3, none⟩ = some (.int .i64 zn) ∧ W.cell? ⟨rb, k * 5 + 4, none⟩ = some (.int .i64 zg) ∧ W.cell? ⟨R, 0, none⟩ = some (.slice (some ⟨rb, 0, none⟩) es.length rcap))
        ((repeat' apply And.intro) <;> (repeat (first | with_reducible assumption | with_reducible refine cell_drewN ?_ | with_reducible refine cell_drew ?_)))
        (first
          | (go_at_call 11; ((with_reducible refine (HP.out _ (by repeat (first | with_reducible exact HQ.out | with_reducible exact RowKit.Below.refl _ _ | with_reducible refine below_drewN ?_ _ | with_reducible refine RowKit.Below.drew ?_))).mono ?_); rintro e v3 ⟨rfl, HQ, g0, g1, g2, g3, g4, g5, g6, g7, g8, g9, g10⟩)))
      have HN := Lib.hid (And.intro (HI.out.1.below HQ.out) (HI.out.2.below HQ.out))
      clear HP HQ HI
      go_wp2
      go_roundw
      case rel => exact ⟨k + 1, by omega, by go_num, HN⟩
      case measure => simp [intOf]; omega
    · have k1 : ¬ (k : Int) < (es.length : Int) := by omega
      go_wp2
      go_ret
      exact ⟨rfl, HI.out.1.b⟩

end Go.Proofs.Ytkpjfmlhjpbdhaa
