/- The walk of live: what must be whatever is asked. -/
import Derived.Test.YtkpjfmlhjpbdhaaLivep
import Derived.Test.YtkpjfmlhjpbdhaaKeeps
import Derived.Test.YtkpjfmlhjpbdhaaMput
import Derived.Test.YtkpjfmlhjpbdhaaMtake
import Derived.Test.YtkpjfmlhjpbdhaaMlab
import Derived.Deep.RegionHeld3
namespace Go.Proofs.Ytkpjfmlhjpbdhaa
open Go.RowKit Go.Lib Go.Sort
attribute [local go_sem ↓] Go.wp_at_zero Go.wp_at_succ

abbrev cellsE (c s t n g : Int) : Array Value := #[.int .i64 c, .int .i64 s, .int .i64 t, .int .i64 n, .int .i64 g]

/-- a queue of the room two, with boxes A and C beside it -/
structure Two (B A C : Nat) (w0 w : World) (es : List Ent) : Prop where
  q : IsQ w B B es 2
  a : Keeps w B A (cellsE 1 4 0 0 1) 35
  c : Keeps w B C (cellsE 1 3 0 0 2) 35
  b : Below w0.heap.size w0 w

theorem Two.below {B A C : Nat} {w0 w w' : World} {es : List Ent} (h : Two B A C w0 w es) (hb : Below w.heap.size w w') : Two B A C w0 w' es :=
  ⟨h.q.below hb, h.a.below h.q.lt hb, h.c.below h.q.lt hb, h.b.trans (hb.mono h.b.size)⟩

theorem Two.turn {B A C : Nat} {w0 w w' : World} {es es' : List Ent} (h : Two B A C w0 w es) (hB : w0.heap.size ≤ B) (hq : IsQ w' B B es' 2) (hc : Chg B [35, 70] w w') (hm : Mine B w w') : Two B A C w0 w' es' :=
  ⟨hq, h.a.mine hm, h.c.mine hm, h.b.trans ((hc.below (Nat.le_of_lt h.q.lt)).mono hB)⟩

theorem two_put {B A C : Nat} {w0 w : World} {es : List Ent} (x : Ent) (h : Two B A C w0 w es) (hB : w0.heap.size ≤ B) (hr : lright x.c x.s x.t x.n = true) (hi : idxT x.g es 0 = -1) (hl : es.length < 2) :
    Calls Try.prog 9 #[.pointer (some ⟨B, 0, none⟩), entVal x] w fun e w' => e = .returned (.int .i64 0) ∧ ∃ es', es'.Perm (es ++ [x]) ∧ Sorted es' ∧ Two B A C w0 w' es' := by
  refine (put_okm B B es 2 x w (Nat.le_of_lt h.q.lt) h.q hr hi (by omega) (by omega)).mono ?_
  rintro e w' ⟨he, es', hp, hs, hq, hc, hm⟩
  exact ⟨he, es', hp, hs, h.turn hB hq hc hm⟩

set_option maxHeartbeats 2000000 in
set_option maxRecDepth 100000 in
theorem live_any (w : World) : Calls Try.prog 8 #[] w fun e w' => e = .returned (.bool true) ∧ Below w.heap.size w w' := by
  go_enter Try.func8, Try.ntmps8
  go_wp2_with fail
  refine (new_ok 2 _ (by decide) (by decide)).mono ?_
  rintro e w1 ⟨rfl, hq, hE⟩
  have HQ := Lib.hid hq; clear hq
  have HE := Lib.hid hE; clear hE
  go_wp2_with fail
  refine (new_no 0 _ (by decide)).mono ?_
  rintro e w2 ⟨rfl, rfl⟩
  go_wp2_with fail
  have hT0 : Two w.heap.size w1.heap.size (w1.heap.size + 1) w ((w1.alloc (.cells (cellsE 1 4 0 0 1) 35 (0, 0))).alloc (.cells (cellsE 1 3 0 0 2) 35 (0, 0))) [] := by
    have b1 : Below w1.heap.size w1 (w1.alloc (.cells (cellsE 1 4 0 0 1) 35 (0, 0))) := (Below.refl _ _).alloc (Nat.le_refl _) _
    have q1 := HQ.out.below b1
    have b2 : Below (w1.alloc (.cells (cellsE 1 4 0 0 1) 35 (0, 0))).heap.size (w1.alloc (.cells (cellsE 1 4 0 0 1) 35 (0, 0))) ((w1.alloc (.cells (cellsE 1 4 0 0 1) 35 (0, 0))).alloc (.cells (cellsE 1 3 0 0 2) 35 (0, 0))) := (Below.refl _ _).alloc (Nat.le_refl _) _
    have k2 := Keeps.new q1 (cellsE 1 3 0 0 2) 35
    rw [World.size_alloc] at k2
    exact ⟨q1.below b2, (Keeps.new HQ.out (cellsE 1 4 0 0 1) 35).below q1.lt b2, k2, (HE.out.trans (b1.mono HE.out.size)).trans (b2.mono (by have := HE.out.size; simp; omega))⟩
  generalize hS : (w1.alloc (.cells (cellsE 1 4 0 0 1) 35 (0, 0))).alloc (.cells (cellsE 1 3 0 0 2) 35 (0, 0)) = S at *
  clear hS
  generalize w1.heap.size + 1 = C at *
  generalize w1.heap.size = A at *
  clear HQ HE
  generalize hBB : w.heap.size = B at hT0 ⊢
  have HBB := Lib.hid (Nat.le_of_eq hBB); clear hBB
  have a0 : S.cell? ⟨A, 0, none⟩ = some (.int .i64 1) := hT0.a.cell rfl
  have a1 : S.cell? ⟨A, 1, none⟩ = some (.int .i64 4) := hT0.a.cell rfl
  have a2 : S.cell? ⟨A, 2, none⟩ = some (.int .i64 0) := hT0.a.cell rfl
  have a3 : S.cell? ⟨A, 3, none⟩ = some (.int .i64 0) := hT0.a.cell rfl
  have a4 : S.cell? ⟨A, 4, none⟩ = some (.int .i64 1) := hT0.a.cell rfl
  have c0 : S.cell? ⟨C, 0, none⟩ = some (.int .i64 1) := hT0.c.cell rfl
  have c1 : S.cell? ⟨C, 1, none⟩ = some (.int .i64 3) := hT0.c.cell rfl
  have c2 : S.cell? ⟨C, 2, none⟩ = some (.int .i64 0) := hT0.c.cell rfl
  have c3 : S.cell? ⟨C, 3, none⟩ = some (.int .i64 0) := hT0.c.cell rfl
  have c4 : S.cell? ⟨C, 4, none⟩ = some (.int .i64 2) := hT0.c.cell rfl
  have P1 : ∀ W, Hid (Two B A C w W []) → Calls Try.prog 9 #[.pointer (some ⟨B, 0, none⟩), .agg (cellsE 1 4 0 0 1)] W fun e w' => e = .returned (.int .i64 0) ∧ Hid (Two B A C w w' [⟨1, 4, 0, 0, 1⟩]) ∧ (w'.cell? ⟨C, 0, none⟩ = some (.int .i64 1) ∧ w'.cell? ⟨C, 1, none⟩ = some (.int .i64 3) ∧ w'.cell? ⟨C, 2, none⟩ = some (.int .i64 0) ∧ w'.cell? ⟨C, 3, none⟩ = some (.int .i64 0) ∧ w'.cell? ⟨C, 4, none⟩ = some (.int .i64 2) ∧ w'.cell? ⟨A, 0, none⟩ = some (.int .i64 1) ∧ w'.cell? ⟨A, 1, none⟩ = some (.int .i64 4) ∧ w'.cell? ⟨A, 2, none⟩ = some (.int .i64 0) ∧ w'.cell? ⟨A, 3, none⟩ = some (.int .i64 0) ∧ w'.cell? ⟨A, 4, none⟩ = some (.int .i64 1)) := by
    intro W h
    refine (two_put ⟨1, 4, 0, 0, 1⟩ h.out HBB.out (by decide) rfl (by decide)).mono ?_
    rintro e w' ⟨he, es', hp, hs, ht⟩
    rw [live1 hp] at ht
    exact ⟨he, Lib.hid ht, ht.c.cell rfl, ht.c.cell rfl, ht.c.cell rfl, ht.c.cell rfl, ht.c.cell rfl, ht.a.cell rfl, ht.a.cell rfl, ht.a.cell rfl, ht.a.cell rfl, ht.a.cell rfl⟩
  have P2 : ∀ W, Hid (Two B A C w W [⟨1, 4, 0, 0, 1⟩]) → Calls Try.prog 9 #[.pointer (some ⟨B, 0, none⟩), .agg (cellsE 1 3 0 0 2)] W fun e w' => e = .returned (.int .i64 0) ∧ Hid (Two B A C w w' [⟨1, 3, 0, 0, 2⟩, ⟨1, 4, 0, 0, 1⟩]) ∧ (w'.cell? ⟨C, 0, none⟩ = some (.int .i64 1) ∧ w'.cell? ⟨C, 1, none⟩ = some (.int .i64 3) ∧ w'.cell? ⟨C, 2, none⟩ = some (.int .i64 0) ∧ w'.cell? ⟨C, 3, none⟩ = some (.int .i64 0) ∧ w'.cell? ⟨C, 4, none⟩ = some (.int .i64 2) ∧ w'.cell? ⟨A, 0, none⟩ = some (.int .i64 1) ∧ w'.cell? ⟨A, 1, none⟩ = some (.int .i64 4) ∧ w'.cell? ⟨A, 2, none⟩ = some (.int .i64 0) ∧ w'.cell? ⟨A, 3, none⟩ = some (.int .i64 0) ∧ w'.cell? ⟨A, 4, none⟩ = some (.int .i64 1)) := by
    intro W h
    refine (two_put ⟨1, 3, 0, 0, 2⟩ h.out HBB.out (by decide) rfl (by decide)).mono ?_
    rintro e w' ⟨he, es', hp, hs, ht⟩
    rw [live2 hp hs] at ht
    exact ⟨he, Lib.hid ht, ht.c.cell rfl, ht.c.cell rfl, ht.c.cell rfl, ht.c.cell rfl, ht.c.cell rfl, ht.a.cell rfl, ht.a.cell rfl, ht.a.cell rfl, ht.a.cell rfl, ht.a.cell rfl⟩
  have HP1 := Lib.hid P1; clear P1
  have HP2 := Lib.hid P2; clear P2
  have HT0 := Lib.hid hT0; clear hT0
  go_region_held3 (fun w' => w'.cell? ⟨C, 0, none⟩ = some (.int .i64 1) ∧ w'.cell? ⟨C, 1, none⟩ = some (.int .i64 3) ∧ w'.cell? ⟨C, 2, none⟩ = some (.int .i64 0) ∧ w'.cell? ⟨C, 3, none⟩ = some (.int .i64 0) ∧ w'.cell? ⟨C, 4, none⟩ = some (.int .i64 2) ∧ w'.cell? ⟨A, 0, none⟩ = some (.int .i64 1) ∧ w'.cell? ⟨A, 1, none⟩ = some (.int .i64 4) ∧ w'.cell? ⟨A, 2, none⟩ = some (.int .i64 0) ∧ w'.cell? ⟨A, 3, none⟩ = some (.int .i64 0) ∧ w'.cell? ⟨A, 4, none⟩ = some (.int .i64 1))
    ((repeat' apply And.intro) <;> (repeat (first | with_reducible assumption | with_reducible refine cell_drewN ?_ | with_reducible refine cell_drew ?_)))
    (first
      | (go_at_call_of 9 (Value.agg #[Value.int IntKind.i64 1, Value.int IntKind.i64 4, Value.int IntKind.i64 0, Value.int IntKind.i64 0, Value.int IntKind.i64 1]); refine (HP1.out _ (Lib.hid (HT0.out.below (by repeat (first | with_reducible exact RowKit.Below.refl _ _ | with_reducible refine below_drewN ?_ _ | with_reducible refine RowKit.Below.drew ?_))))).mono ?_; rintro e v1 ⟨rfl, HT1, c10, c11, c12, c13, c14, a10, a11, a12, a13, a14⟩)
      | (go_at_call_of 9 (Value.agg #[Value.int IntKind.i64 1, Value.int IntKind.i64 3, Value.int IntKind.i64 0, Value.int IntKind.i64 0, Value.int IntKind.i64 2]); refine (HP2.out _ (Lib.hid (HT1.out.below (by repeat (first | with_reducible exact RowKit.Below.refl _ _ | with_reducible refine below_drewN ?_ _ | with_reducible refine RowKit.Below.drew ?_))))).mono ?_; rintro e v2 ⟨rfl, HT2, c20, c21, c22, c23, c24, a20, a21, a22, a23, a24⟩))
  clear c0 c1 c2 c3 c4 a0 a1 a2 a3 a4 c10 c11 c12 c13 c14 a10 a11 a12 a13 a14 HT1 HT0 HP1 HP2
  have P3 : ∀ W, Hid (Two B A C w W [⟨1, 3, 0, 0, 2⟩, ⟨1, 4, 0, 0, 1⟩]) → Calls Try.prog 9 #[.pointer (some ⟨B, 0, none⟩), .agg (cellsE 1 4 0 0 3)] W fun e w' => e = .returned (.int .i64 6) ∧ Hid (Two B A C w w' [⟨1, 3, 0, 0, 2⟩, ⟨1, 4, 0, 0, 1⟩]) := by
    intro W h
    refine (put_full B B _ 2 ⟨1, 4, 0, 0, 3⟩ W h.out.q (by decide) rfl (by decide)).mono ?_
    rintro e w' ⟨he, hb⟩
    exact ⟨he, Lib.hid (h.out.below hb)⟩
  go_wp2_with fail
  refine (P3 _ (Lib.hid (HT2.out.below (by repeat (first | with_reducible exact RowKit.Below.refl _ _ | with_reducible refine below_drewN ?_ _ | with_reducible refine RowKit.Below.drew ?_))))).mono ?_
  rintro e v3 ⟨rfl, HT3⟩
  clear P3
  go_wp2_with fail
  refine (head_yes B B _ _ 2 _ HT3.out.q).mono ?_
  rintro e v4 ⟨rfl, hb4⟩
  have HT4 := Lib.hid (HT3.out.below hb4); clear hb4
  have kH0 := Keeps.new HT4.out.q (cellsE 1 3 0 0 2) 35
  have t4 := HT4.out.below ((Below.refl v4.heap.size v4).alloc (Nat.le_refl _) (.cells (cellsE 1 3 0 0 2) 35 (0, 0)))
  have HK4 := Lib.hid (And.intro t4 kH0); clear t4 kH0
  generalize hH : v4.heap.size = H at HK4
  have HH := Lib.hid hH; clear hH
  go_wp2_with fail
  rw [HH.out]
  refine (label_okm B B _ 2 1 1 0 0 0 1 _ (by decide) (by decide) HK4.out.1.q rfl (by decide)).mono ?_
  rintro e v5 ⟨rfl, es5, hp5, hs5, hq5, hc5, hm5⟩
  rw [live3 hp5 hs5] at hq5
  have HK5 := Lib.hid (And.intro (HK4.out.1.turn HBB.out hq5 hc5 hm5) (HK4.out.2.mine hm5))
  clear hp5 hs5 hq5 hc5 hm5 HK4 HT4 HT3 HT2 c20 c21 c22 c23 c24 a20 a21 a22 a23 a24
  go_wp2_with fail
  refine (head_yes B B _ _ 2 _ HK5.out.1.q).mono ?_
  rintro e v6 ⟨rfl, hb6⟩
  have HK6 := Lib.hid (And.intro (HK5.out.1.below hb6) (HK5.out.2.below HK5.out.1.q.lt hb6)); clear hb6 HK5
  have b7 := ((Below.refl v6.heap.size v6).alloc (Nat.le_refl _) (.cells (cellsE 1 0 0 0 1) 35 (0, 0)))
  have HK7 := Lib.hid (And.intro (HK6.out.1.below b7) (And.intro (HK6.out.2.below HK6.out.1.q.lt b7) (Keeps.new HK6.out.1.q (cellsE 1 0 0 0 1) 35))); clear b7 HK6
  generalize hN : v6.heap.size = N at HK7
  have HN := Lib.hid hN; clear hN
  go_wp2_with fail
  rw [HN.out]
  refine (take_yesm B B _ 2 2 _ 1 (by decide) HK7.out.1.q rfl).mono ?_
  rintro e v8 ⟨rfl, hq8, hc8, hm8⟩
  have HK8 := Lib.hid (And.intro (HK7.out.1.turn HBB.out hq8 hc8 hm8) (And.intro (HK7.out.2.1.mine hm8) (HK7.out.2.2.mine hm8)))
  clear hq8 hc8 hm8 HK7
  have e8 : entVal ([⟨1, 0, 0, 0, 1⟩, ⟨1, 3, 0, 0, 2⟩] : List Ent)[1] = .agg (cellsE 1 3 0 0 2) := rfl
  rw [e8]; clear e8
  have b9 := ((Below.refl v8.heap.size v8).alloc (Nat.le_refl _) (.cells (cellsE 1 3 0 0 2) 35 (0, 0)))
  have HK9 := Lib.hid (And.intro (HK8.out.1.below b9) (And.intro (HK8.out.2.1.below HK8.out.1.q.lt b9) (And.intro (HK8.out.2.2.below HK8.out.1.q.lt b9) (Keeps.new HK8.out.1.q (cellsE 1 3 0 0 2) 35)))); clear b9 HK8
  generalize hT : v8.heap.size = T at HK9
  have HT := Lib.hid hT; clear hT
  go_wp2_with fail
  rw [HT.out]
  refine (head_nil _).mono ?_
  rintro e v10 ⟨rfl, hb10⟩
  have hb11 := hb10.alloc hb10.size (.cells (cellsE 0 0 0 0 0) 35 (0, 0))
  have HK11 := Lib.hid (And.intro (HK9.out.1.below hb11) (And.intro (HK9.out.2.1.below HK9.out.1.q.lt hb11) (And.intro (HK9.out.2.2.1.below HK9.out.1.q.lt hb11) (HK9.out.2.2.2.below HK9.out.1.q.lt hb11)))); clear hb10 hb11 HK9
  go_wp2_with fail
  refine (take_nil 1 _).mono ?_
  rintro e v12 ⟨rfl, hb12⟩
  have hb13 := hb12.alloc hb12.size (.cells (cellsE 0 0 0 0 0) 35 (0, 0))
  have HK13 := Lib.hid (And.intro (HK11.out.1.below hb12) (And.intro (HK11.out.2.1.below HK11.out.1.q.lt hb12) (And.intro (HK11.out.2.2.1.below HK11.out.1.q.lt hb12) (HK11.out.2.2.2.below HK11.out.1.q.lt hb12)))); clear hb12 hb13 HK11
  have a0 : v12.cell? ⟨A, 0, none⟩ = some (.int .i64 1) := HK13.out.1.a.cell rfl
  have a1 : v12.cell? ⟨A, 1, none⟩ = some (.int .i64 4) := HK13.out.1.a.cell rfl
  have a2 : v12.cell? ⟨A, 2, none⟩ = some (.int .i64 0) := HK13.out.1.a.cell rfl
  have a3 : v12.cell? ⟨A, 3, none⟩ = some (.int .i64 0) := HK13.out.1.a.cell rfl
  have a4 : v12.cell? ⟨A, 4, none⟩ = some (.int .i64 1) := HK13.out.1.a.cell rfl
  have c0 : v12.cell? ⟨C, 0, none⟩ = some (.int .i64 1) := HK13.out.1.c.cell rfl
  have c1 : v12.cell? ⟨C, 1, none⟩ = some (.int .i64 3) := HK13.out.1.c.cell rfl
  have c2 : v12.cell? ⟨C, 2, none⟩ = some (.int .i64 0) := HK13.out.1.c.cell rfl
  have c3 : v12.cell? ⟨C, 3, none⟩ = some (.int .i64 0) := HK13.out.1.c.cell rfl
  have c4 : v12.cell? ⟨C, 4, none⟩ = some (.int .i64 2) := HK13.out.1.c.cell rfl
  have h0 : v12.cell? ⟨H, 0, none⟩ = some (.int .i64 1) := HK13.out.2.1.cell rfl
  have h1 : v12.cell? ⟨H, 1, none⟩ = some (.int .i64 3) := HK13.out.2.1.cell rfl
  have h2 : v12.cell? ⟨H, 2, none⟩ = some (.int .i64 0) := HK13.out.2.1.cell rfl
  have h3 : v12.cell? ⟨H, 3, none⟩ = some (.int .i64 0) := HK13.out.2.1.cell rfl
  have h4 : v12.cell? ⟨H, 4, none⟩ = some (.int .i64 2) := HK13.out.2.1.cell rfl
  have n4 : v12.cell? ⟨N, 4, none⟩ = some (.int .i64 1) := HK13.out.2.2.1.cell rfl
  have t0 : v12.cell? ⟨T, 0, none⟩ = some (.int .i64 1) := HK13.out.2.2.2.cell rfl
  have t1 : v12.cell? ⟨T, 1, none⟩ = some (.int .i64 3) := HK13.out.2.2.2.cell rfl
  have t2 : v12.cell? ⟨T, 2, none⟩ = some (.int .i64 0) := HK13.out.2.2.2.cell rfl
  have t3 : v12.cell? ⟨T, 3, none⟩ = some (.int .i64 0) := HK13.out.2.2.2.cell rfl
  have t4 : v12.cell? ⟨T, 4, none⟩ = some (.int .i64 2) := HK13.out.2.2.2.cell rfl
  have zA := cell_lt a0
  have zC := cell_lt c0
  have zH := cell_lt h0
  have zN := cell_lt n4
  have zT := cell_lt t0
  have b14 := ((Below.refl v12.heap.size v12).alloc (Nat.le_refl _) (.cells (cellsE 0 0 0 0 0) 35 (0, 0)))
  have hT14 := HK13.out.1.below b14
  have L14 : Calls Try.prog 22 #[.pointer (some ⟨B, 0, none⟩)] (v12.alloc (.cells (cellsE 0 0 0 0 0) 35 (0, 0))) fun e w' => e = .returned (.int .i64 1) ∧ (v12.alloc (.cells (cellsE 0 0 0 0 0) 35 (0, 0))) = w' := len_any B B _ 2 _ hT14.q
  have R14 := room_any B B _ 2 _ hT14.q
  have HL14 := Lib.hid L14; clear L14
  have HR14 := Lib.hid R14; clear R14
  have HT14 := Lib.hid hT14; clear hT14 b14
  go_wp2_with (first
    | (go_at_call_of 22 (Value.pointer (some ⟨B, 0, none⟩)); refine HL14.out.mono ?_; rintro e w' ⟨rfl, rfl⟩)
    | (go_at_call_of 22 (Value.pointer none); refine (len_nil _).mono ?_; rintro e w' ⟨rfl, rfl⟩)
    | (go_at_call 26; refine HR14.out.mono ?_; rintro e w' ⟨rfl, rfl⟩))
  refine (put_nil ⟨1, 4, 0, 0, 1⟩ _).mono ?_
  rintro e v15 ⟨rfl, hb15⟩
  have hT15 := HT14.out.below hb15
  have x0 : v15.cell? ⟨A, 0, none⟩ = some (.int .i64 1) := hT15.a.cell rfl
  have x1 : v15.cell? ⟨A, 1, none⟩ = some (.int .i64 4) := hT15.a.cell rfl
  have x2 : v15.cell? ⟨A, 2, none⟩ = some (.int .i64 0) := hT15.a.cell rfl
  have x3 : v15.cell? ⟨A, 3, none⟩ = some (.int .i64 0) := hT15.a.cell rfl
  have HT15 := Lib.hid hT15; clear hT15 hb15
  go_wp2_with fail
  refine (label_nil 1 1 4 0 0 _).mono ?_
  rintro e v16 ⟨rfl, hb16⟩
  have HF := Lib.hid (HT15.out.below hb16).b; clear hb16
  go_wp2
  go_ret
  exact ⟨rfl, HF.out⟩

end Go.Proofs.Ytkpjfmlhjpbdhaa
