/- The walk of QueuePlays. -/
import Derived.Test.YtkpjfmlhjpbdhaaPair
namespace Go.Proofs.Ytkpjfmlhjpbdhaa
open Go.RowKit Go.Lib Go.Sort
attribute [local go_sem ↓] Go.wp_at_zero Go.wp_at_succ

/-- both queues hold the same entries -/
structure Pr (B R : Nat) (room : Int) (w0 w : World) (es : List Ent) : Prop where
  q : IsQ w B B es room
  r : IsR w R es room
  b : Below w0.heap.size w0 w
  hB : w0.heap.size ≤ B
  hR : w0.heap.size ≤ R
  g : Good room es

theorem Pr.box {B R : Nat} {room : Int} {w0 w : World} {es : List Ent} (h : Pr B R room w0 w es) (k c s t n g : Int) :
    St B R w.heap.size room k c s t n g w0 (w.alloc (.cells #[.int .i64 k, .int .i64 c, .int .i64 s, .int .i64 t, .int .i64 n, .int .i64 g] 37 (0, 0))) es es := by
  have hb : Below w.heap.size w (w.alloc (.cells #[.int .i64 k, .int .i64 c, .int .i64 s, .int .i64 t, .int .i64 n, .int .i64 g] 37 (0, 0))) := (Below.refl _ _).alloc (Nat.le_refl _) _
  exact ⟨h.q.below hb, h.r.below hb, h.b.trans (hb.mono h.b.size), h.hB, h.hR, heap_alloc_new _ _⟩
theorem St.pr {B R A : Nat} {room k c s t n g : Int} {w0 w : World} {es : List Ent} (h : St B R A room k c s t n g w0 w es es) (hg : Good room es) : Pr B R room w0 w es := ⟨h.q, h.r, h.b, h.hB, h.hR, hg⟩

/-- the slice of acts reads so -/
def Acts (w : World) (a : Option Addr) (len : Nat) : Prop :=
  ∀ k, k < len → ∃ b off kd c s t n g, a = some ⟨b, off, none⟩ ∧ w.cell? ⟨b, off + k * 6, none⟩ = some (.int .i64 kd) ∧ w.cell? ⟨b, off + k * 6 + 1, none⟩ = some (.int .i64 c) ∧ w.cell? ⟨b, off + k * 6 + 2, none⟩ = some (.int .i64 s) ∧ w.cell? ⟨b, off + k * 6 + 3, none⟩ = some (.int .i64 t) ∧ w.cell? ⟨b, off + k * 6 + 4, none⟩ = some (.int .i64 n) ∧ w.cell? ⟨b, off + k * 6 + 5, none⟩ = some (.int .i64 g)

theorem play_no (room : Int) (a : Option Addr) (len cap : Nat) (w : World) (hr : room < 1 ∨ 64 < room) :
    Calls Try.prog 3 #[.int .i64 room, .slice a len cap] w fun e w' => e = .returned (.bool true) ∧ Below w.heap.size w w' := by
  have h1 := new_no room w hr
  have h2 := rnew_no room w hr
  have H1 := Lib.hid h1; clear h1
  have H2 := Lib.hid h2; clear h2
  clear hr
  go_enter Try.func3, Try.ntmps3
  go_wp2_with fail
  refine H1.out.mono ?_
  rintro e w1 ⟨rfl, rfl⟩
  go_wp2_with fail
  refine H2.out.mono ?_
  rintro e w2 ⟨rfl, rfl⟩
  go_wp2_with fail
  refine (live_any _).mono ?_
  rintro e w3 ⟨rfl, hb⟩
  have HB := Lib.hid hb; clear hb
  go_wp2
  go_ret
  exact ⟨rfl, HB.out⟩

set_option maxHeartbeats 4000000 in
set_option maxRecDepth 100000 in
theorem play_ok (room : Int) (a : Option Addr) (len cap : Nat) (w : World) (hr1 : 1 ≤ room) (hr2 : room ≤ 64) (hlen : len ≤ maxLen) (hrow : Acts w a len) :
    Calls Try.prog 3 #[.int .i64 room, .slice a len cap] w fun e w' => e = .returned (.bool true) ∧ Below w.heap.size w w' := by
  unfold maxLen at hlen
  have HROW := Lib.hid hrow; clear hrow
  go_enter Try.func3, Try.ntmps3
  go_wp2_with fail
  refine (new_ok room _ hr1 hr2).mono ?_
  rintro e w1 ⟨rfl, hq, hE⟩
  have HQ := Lib.hid (And.intro hq hE); clear hq hE
  go_wp2_with fail
  refine (rnew_ok room _ hr1 hr2).mono ?_
  rintro e w2 ⟨rfl, hR, hE⟩
  have hP : Pr w.heap.size w1.heap.size room w w2 [] := ⟨HQ.out.1.below hE, hR, HQ.out.2.trans (hE.mono HQ.out.2.size), Nat.le_refl _, HQ.out.2.size, ⟨List.Pairwise.nil, by simp; omega, hr2⟩⟩
  have HP := Lib.hid hP; clear hP hR hE HQ
  generalize hRR : w1.heap.size = R at HP ⊢
  clear hRR
  generalize hBB : w.heap.size = B at HP ⊢
  clear hBB
  go_wp2_with fail
  go_loopw [9] (fun i wr => ∃ (k : Nat) (es : List Ent), k ≤ len ∧ i = .int .i64 k ∧ Hid (Pr B R room w wr es)) (fun i _ => len - (intOf i).toNat)
  case atStart => exact ⟨0, [], by omega, rfl, HP⟩
  case round =>
    clear HP
    obtain ⟨k, es, hk, rfl, HI⟩ := hrel
    by_cases hlt : k < len
    · have k0 : (0 : Int) ≤ (k : Int) := by omega
      have k1 : (k : Int) < (len : Int) := by omega
      by_cases h60 : (k : Int) < 60
      · obtain ⟨b, off, kd, c, s, t, n, g, rfl, c0', c1', c2', c3', c4', c5'⟩ := HROW.out k hlt
        have c0 := cell_below HI.out.b c0'
        have c1 := cell_below HI.out.b c1'
        have c2 := cell_below HI.out.b c2'
        have c3 := cell_below HI.out.b c3'
        have c4 := cell_below HI.out.b c4'
        have c5 := cell_below HI.out.b c5'
        clear c0' c1' c2' c3' c4' c5'
        have HS0 := Lib.hid (HI.out.box kd c s t n g)
        have HG := Lib.hid HI.out.g
        clear HI
        by_cases hk0 : kd = 0
        · subst hk0
          have c1x := HS0.out.cells
          obtain ⟨b0, b1, b2, b3, b4, b5⟩ := c1x
          have hP1 : ∀ W, St B R wr.heap.size room 0 c s t n g w W es es → Calls Try.prog 9 #[.pointer (some ⟨B, 0, none⟩), entVal ⟨c, s, t, n, g⟩] W fun e w' => e = .returned (.int .i64 (putR room es ⟨c, s, t, n, g⟩)) ∧ Hid (St B R wr.heap.size room 0 c s t n g w w' (putL room es ⟨c, s, t, n, g⟩) es) ∧ w'.cell? ⟨wr.heap.size, 1, none⟩ = some (.int .i64 c) ∧ w'.cell? ⟨wr.heap.size, 2, none⟩ = some (.int .i64 s) ∧ w'.cell? ⟨wr.heap.size, 3, none⟩ = some (.int .i64 t) ∧ w'.cell? ⟨wr.heap.size, 4, none⟩ = some (.int .i64 n) ∧ w'.cell? ⟨wr.heap.size, 5, none⟩ = some (.int .i64 g) := by
            intro W hW
            refine (st_put ⟨c, s, t, n, g⟩ hW HG.out).mono ?_
            rintro e w' ⟨he, h⟩
            obtain ⟨_, g1, g2, g3, g4, g5⟩ := h.cells
            exact ⟨he, Lib.hid h, g1, g2, g3, g4, g5⟩
          have hP2 : ∀ W, St B R wr.heap.size room 0 c s t n g w W (putL room es ⟨c, s, t, n, g⟩) es → Calls Try.prog 11 #[entVal ⟨c, s, t, n, g⟩] W fun e w' => e = .returned (entVal ⟨c, s, t, n, g⟩) ∧ Hid (St B R wr.heap.size room 0 c s t n g w w' (putL room es ⟨c, s, t, n, g⟩) es) ∧ w'.cell? ⟨wr.heap.size, 1, none⟩ = some (.int .i64 c) ∧ w'.cell? ⟨wr.heap.size, 2, none⟩ = some (.int .i64 s) ∧ w'.cell? ⟨wr.heap.size, 3, none⟩ = some (.int .i64 t) ∧ w'.cell? ⟨wr.heap.size, 4, none⟩ = some (.int .i64 n) ∧ w'.cell? ⟨wr.heap.size, 5, none⟩ = some (.int .i64 g) := by
            intro W hW
            refine (st_plain ⟨c, s, t, n, g⟩ hW).mono ?_
            rintro e w' ⟨he, h⟩
            obtain ⟨_, g1, g2, g3, g4, g5⟩ := h.cells
            exact ⟨he, Lib.hid h, g1, g2, g3, g4, g5⟩
          have hP3 : ∀ W, St B R wr.heap.size room 0 c s t n g w W (putL room es ⟨c, s, t, n, g⟩) es → Calls Try.prog 10 #[.pointer (some ⟨R, 0, none⟩), entVal ⟨c, s, t, n, g⟩] W fun e w' => e = .returned (.int .i64 (putR room es ⟨c, s, t, n, g⟩)) ∧ Hid (St B R wr.heap.size room 0 c s t n g w w' (putL room es ⟨c, s, t, n, g⟩) (putL room es ⟨c, s, t, n, g⟩)) ∧ w'.cell? ⟨wr.heap.size, 1, none⟩ = some (.int .i64 c) ∧ w'.cell? ⟨wr.heap.size, 2, none⟩ = some (.int .i64 s) ∧ w'.cell? ⟨wr.heap.size, 3, none⟩ = some (.int .i64 t) ∧ w'.cell? ⟨wr.heap.size, 4, none⟩ = some (.int .i64 n) ∧ w'.cell? ⟨wr.heap.size, 5, none⟩ = some (.int .i64 g) := by
            intro W hW
            refine (st_rput ⟨c, s, t, n, g⟩ hW HG.out).mono ?_
            rintro e w' ⟨he, h⟩
            obtain ⟨_, g1, g2, g3, g4, g5⟩ := h.cells
            exact ⟨he, Lib.hid h, g1, g2, g3, g4, g5⟩
          have H1 := Lib.hid hP1; clear hP1
          have H2 := Lib.hid hP2; clear hP2
          have H3 := Lib.hid hP3; clear hP3
          go_wp2
          go_region_held3 (fun W => W.cell? ⟨wr.heap.size, 1, none⟩ = some (.int .i64 c) ∧ W.cell? ⟨wr.heap.size, 2, none⟩ = some (.int .i64 s) ∧ W.cell? ⟨wr.heap.size, 3, none⟩ = some (.int .i64 t) ∧ W.cell? ⟨wr.heap.size, 4, none⟩ = some (.int .i64 n) ∧ W.cell? ⟨wr.heap.size, 5, none⟩ = some (.int .i64 g))
            ((repeat' apply And.intro) <;> (repeat (first | with_reducible assumption | with_reducible refine cell_drewN ?_ | with_reducible refine cell_drew ?_)))
            (first
              | (go_at_call 9; ((with_reducible refine (H1.out _ (by repeat (first | with_reducible exact HQ.out | with_reducible exact HS0.out | with_reducible refine St.drewN ?_ _ | with_reducible refine St.drew ?_))).mono ?_); rintro e v3 ⟨rfl, HQ, g1, g2, g3, g4, g5⟩))
              | (go_at_call 11; ((with_reducible refine (H2.out _ (by repeat (first | with_reducible exact HQ.out | with_reducible exact HS0.out | with_reducible refine St.drewN ?_ _ | with_reducible refine St.drew ?_))).mono ?_); rintro e v3 ⟨rfl, HQ, g1, g2, g3, g4, g5⟩))
              | (go_at_call 10; ((with_reducible refine (H3.out _ (by repeat (first | with_reducible exact HQ.out | with_reducible exact HS0.out | with_reducible refine St.drewN ?_ _ | with_reducible refine St.drew ?_))).mono ?_); rintro e v3 ⟨rfl, HQ, g1, g2, g3, g4, g5⟩)))
          have HG1 := Lib.hid (HG.out.put ⟨c, s, t, n, g⟩)
          generalize hes : putL room es ⟨c, s, t, n, g⟩ = es1 at HQ HG1
          clear H1 H2 H3 HG hes HS0
          go_wp2_with fail
          refine (st_same g HQ.out HG1.out).mono ?_
          rintro e w4 ⟨rfl, h4⟩
          have HN := Lib.hid (h4.pr HG1.out); clear h4 HQ HG1
          go_wp2
          go_roundw
          case rel => exact ⟨k + 1, es1, by omega, by go_num, HN⟩
          case measure => simp [intOf]; omega
        · by_cases hk2 : kd = 2
          · subst hk2
            obtain ⟨b0, b1, b2, b3, b4, b5⟩ := HS0.out.cells
            have hP1 : ∀ W, St B R wr.heap.size room 2 c s t n g w W es es → Calls Try.prog 12 #[.pointer (some ⟨B, 0, none⟩), .int .i64 g, labV c s t n] W fun e w' => e = .returned (.int .i64 (labR g es c s t n)) ∧ Hid (St B R wr.heap.size room 2 c s t n g w w' (labL g es c s t n) es) ∧ w'.cell? ⟨wr.heap.size, 1, none⟩ = some (.int .i64 c) ∧ w'.cell? ⟨wr.heap.size, 2, none⟩ = some (.int .i64 s) ∧ w'.cell? ⟨wr.heap.size, 3, none⟩ = some (.int .i64 t) ∧ w'.cell? ⟨wr.heap.size, 4, none⟩ = some (.int .i64 n) ∧ w'.cell? ⟨wr.heap.size, 5, none⟩ = some (.int .i64 g) := by
              intro W hW
              refine (st_lab g c s t n hW HG.out).mono ?_
              rintro e w' ⟨he, h⟩
              obtain ⟨_, g1, g2, g3, g4, g5⟩ := h.cells
              exact ⟨he, Lib.hid h, g1, g2, g3, g4, g5⟩
            have hP3 : ∀ W, St B R wr.heap.size room 2 c s t n g w W (labL g es c s t n) es → Calls Try.prog 13 #[.pointer (some ⟨R, 0, none⟩), .int .i64 g, labV c s t n] W fun e w' => e = .returned (.int .i64 (labR g es c s t n)) ∧ Hid (St B R wr.heap.size room 2 c s t n g w w' (labL g es c s t n) (labL g es c s t n)) ∧ w'.cell? ⟨wr.heap.size, 1, none⟩ = some (.int .i64 c) ∧ w'.cell? ⟨wr.heap.size, 2, none⟩ = some (.int .i64 s) ∧ w'.cell? ⟨wr.heap.size, 3, none⟩ = some (.int .i64 t) ∧ w'.cell? ⟨wr.heap.size, 4, none⟩ = some (.int .i64 n) ∧ w'.cell? ⟨wr.heap.size, 5, none⟩ = some (.int .i64 g) := by
              intro W hW
              refine (st_rlab g c s t n hW HG.out).mono ?_
              rintro e w' ⟨he, h⟩
              obtain ⟨_, g1, g2, g3, g4, g5⟩ := h.cells
              exact ⟨he, Lib.hid h, g1, g2, g3, g4, g5⟩
            have H1 := Lib.hid hP1; clear hP1
            have H3 := Lib.hid hP3; clear hP3
            go_wp2
            go_region_held3 (fun W => W.cell? ⟨wr.heap.size, 1, none⟩ = some (.int .i64 c) ∧ W.cell? ⟨wr.heap.size, 2, none⟩ = some (.int .i64 s) ∧ W.cell? ⟨wr.heap.size, 3, none⟩ = some (.int .i64 t) ∧ W.cell? ⟨wr.heap.size, 4, none⟩ = some (.int .i64 n) ∧ W.cell? ⟨wr.heap.size, 5, none⟩ = some (.int .i64 g))
              ((repeat' apply And.intro) <;> (repeat (first | with_reducible assumption | with_reducible refine cell_drewN ?_ | with_reducible refine cell_drew ?_)))
              (first
                | (go_at_call 12; ((with_reducible refine (H1.out _ (by repeat (first | with_reducible exact HQ.out | with_reducible exact HS0.out | with_reducible refine St.drewN ?_ _ | with_reducible refine St.drew ?_))).mono ?_); rintro e v3 ⟨rfl, HQ, g1, g2, g3, g4, g5⟩))
                | (go_at_call 13; ((with_reducible refine (H3.out _ (by repeat (first | with_reducible exact HQ.out | with_reducible exact HS0.out | with_reducible refine St.drewN ?_ _ | with_reducible refine St.drew ?_))).mono ?_); rintro e v3 ⟨rfl, HQ, g1, g2, g3, g4, g5⟩)))
            have HG1 := Lib.hid (HG.out.lab g c s t n)
            generalize hes : labL g es c s t n = es1 at HQ HG1
            clear H1 H3 HG hes HS0
            go_wp2_with fail
            refine (st_same g HQ.out HG1.out).mono ?_
            rintro e w4 ⟨rfl, h4⟩
            have HN := Lib.hid (h4.pr HG1.out); clear h4 HQ HG1
            go_wp2
            go_roundw
            case rel => exact ⟨k + 1, es1, by omega, by go_num, HN⟩
            case measure => simp [intOf]; omega
          · obtain ⟨b0, b1, b2, b3, b4, b5⟩ := HS0.out.cells
            go_wp2_with fail
            refine (st_rhead HS0.out).mono ?_
            rintro e w3 ⟨rfl, h3⟩
            generalize headE es = hd at h3 ⊢
            obtain ⟨xc, xs, xt, xn, xg⟩ := hd
            obtain ⟨d0, d1, d2, d3, d4, d5⟩ := h3.cells
            have HS3 := Lib.hid (h3.below ((Below.refl _ _).alloc (Nat.le_refl _) (.cells (cellsE xc xs xt xn xg) 40 (0, 0))))
            have z0 : ¬ wr.heap.size = w3.heap.size := by have := cell_lt d0; omega
            clear h3 HS0 b0 b1 b2 b3 b4 b5 d0 d1 d2 d3 d4 d5
            obtain ⟨d0, d1, d2, d3, d4, d5⟩ := HS3.out.cells
            cases headB es with
            | false =>
              have hT := fun W (hW : St B R wr.heap.size room kd c s t n g w W es es) => st_take g hW
              have hRT := fun W (hW : St B R wr.heap.size room kd c s t n g w W (takeL g es) es) => st_rtake g hW HG.out
              have HG1 := Lib.hid (HG.out.take g)
              generalize takeL g es = es1 at hT hRT HG1
              generalize getE g es = z at hT hRT
              generalize takeR g es = tr at hT hRT
              obtain ⟨zc, zs, zt, zn, zg⟩ := z
              have HT := Lib.hid hT; clear hT
              have HRT := Lib.hid hRT; clear hRT HG
              go_wp2_with fail
              refine (HT.out _ HS3.out).mono ?_
              rintro e w5 ⟨rfl, h5⟩
              have hlt5 := h5.r.lt
              have HS5 := Lib.hid (And.intro (h5.below ((Below.refl _ _).alloc (Nat.le_refl _) (.cells (cellsE zc zs zt zn zg) 35 (0, 0)))) (heap_alloc_new w5 (.cells (cellsE zc zs zt zn zg) 35 (0, 0)))); clear h5 HS3 HT
              go_wp2_with fail
              refine (HRT.out _ HS5.out.1).mono ?_
              rintro e w6 ⟨rfl, h6, ho⟩
              have h14 := ho.cells (Nat.ne_of_gt hlt5) HS5.out.2
              have b6 : Below w6.heap.size w6 (w6.alloc (.cells (cellsE zc zs zt zn zg) 40 (0, 0))) := (Below.refl _ _).alloc (Nat.le_refl _) _
              have HS6 := Lib.hid (And.intro (h6.below b6) (And.intro (below_cells b6 h14) (heap_alloc_new w6 (.cells (cellsE zc zs zt zn zg) 40 (0, 0)))))
              have z1 : ¬ w5.heap.size = w6.heap.size := by have := cell_lt (box5 h14).1; omega
              obtain ⟨p0, p1, p2, p3, p4⟩ := box5 HS6.out.2.1
              obtain ⟨q0, q1, q2, q3, q4⟩ := box5 HS6.out.2.2
              clear ho b6 h6 h14 HS5 HRT
              have hP2 : ∀ W, Below (w6.alloc (.cells (cellsE zc zs zt zn zg) 40 (0, 0))).heap.size (w6.alloc (.cells (cellsE zc zs zt zn zg) 40 (0, 0))) W → Calls Try.prog 11 #[entVal ⟨zc, zs, zt, zn, zg⟩] W fun e w' => e = .returned (entVal ⟨zc, zs, zt, zn, zg⟩) ∧ Hid (St B R wr.heap.size room kd c s t n g w w' es1 es1) ∧ w'.cell? ⟨w5.heap.size, 0, none⟩ = some (.int .i64 zc) ∧ w'.cell? ⟨w5.heap.size, 1, none⟩ = some (.int .i64 zs) ∧ w'.cell? ⟨w5.heap.size, 2, none⟩ = some (.int .i64 zt) ∧ w'.cell? ⟨w5.heap.size, 3, none⟩ = some (.int .i64 zn) ∧ w'.cell? ⟨w5.heap.size, 4, none⟩ = some (.int .i64 zg) ∧ w'.cell? ⟨w6.heap.size, 0, none⟩ = some (.int .i64 zc) ∧ w'.cell? ⟨w6.heap.size, 1, none⟩ = some (.int .i64 zs) ∧ w'.cell? ⟨w6.heap.size, 2, none⟩ = some (.int .i64 zt) ∧ w'.cell? ⟨w6.heap.size, 3, none⟩ = some (.int .i64 zn) ∧ w'.cell? ⟨w6.heap.size, 4, none⟩ = some (.int .i64 zg) := by
                intro W hW
                refine (plain_any _ W).mono ?_
                rintro e w' ⟨he, hb⟩
                have h := hW.trans (hb.mono hW.size)
                obtain ⟨p0, p1, p2, p3, p4⟩ := box5 (below_cells h HS6.out.2.1)
                obtain ⟨q0, q1, q2, q3, q4⟩ := box5 (below_cells h HS6.out.2.2)
                exact ⟨he, Lib.hid (HS6.out.1.below h), p0, p1, p2, p3, p4, q0, q1, q2, q3, q4⟩
              have HP2 := Lib.hid hP2; clear hP2 HS6
              go_wp2
              go_region_held3 (fun W => W.cell? ⟨w5.heap.size, 0, none⟩ = some (.int .i64 zc) ∧ W.cell? ⟨w5.heap.size, 1, none⟩ = some (.int .i64 zs) ∧ W.cell? ⟨w5.heap.size, 2, none⟩ = some (.int .i64 zt) ∧ W.cell? ⟨w5.heap.size, 3, none⟩ = some (.int .i64 zn) ∧ W.cell? ⟨w5.heap.size, 4, none⟩ = some (.int .i64 zg) ∧ W.cell? ⟨w6.heap.size, 0, none⟩ = some (.int .i64 zc) ∧ W.cell? ⟨w6.heap.size, 1, none⟩ = some (.int .i64 zs) ∧ W.cell? ⟨w6.heap.size, 2, none⟩ = some (.int .i64 zt) ∧ W.cell? ⟨w6.heap.size, 3, none⟩ = some (.int .i64 zn) ∧ W.cell? ⟨w6.heap.size, 4, none⟩ = some (.int .i64 zg))
                ((repeat' apply And.intro) <;> (repeat (first | with_reducible assumption | with_reducible refine cell_drewN ?_ | with_reducible refine cell_drew ?_)))
                (first
                  | (go_at_call 11; ((with_reducible refine (HP2.out _ (by repeat (first | with_reducible exact RowKit.Below.refl _ _ | with_reducible refine below_drewN ?_ _ | with_reducible refine RowKit.Below.drew ?_))).mono ?_); rintro e v3 ⟨rfl, HQ, g0, g1, g2, g3, g4, g5, g6, g7, g8, g9⟩)))
              obtain ⟨a0, a1, a2, a3, a4, a5⟩ := HQ.out.cells
              clear HP2
              go_wp2_with fail
              refine (st_same g HQ.out HG1.out).mono ?_
              rintro e w4 ⟨rfl, h4⟩
              have HN := Lib.hid (h4.pr HG1.out); clear h4 HQ HG1
              go_wp2
              go_roundw
              case rel => exact ⟨k + 1, es1, by omega, by go_num, HN⟩
              case measure => simp [intOf]; omega
            | true =>
              by_cases hk1 : kd = 1
              · subst hk1
                have hT := fun W (hW : St B R wr.heap.size room 1 c s t n g w W es es) => st_take g hW
                have hRT := fun W (hW : St B R wr.heap.size room 1 c s t n g w W (takeL g es) es) => st_rtake g hW HG.out
                have HG1 := Lib.hid (HG.out.take g)
                generalize takeL g es = es1 at hT hRT HG1
                generalize getE g es = z at hT hRT
                generalize takeR g es = tr at hT hRT
                obtain ⟨zc, zs, zt, zn, zg⟩ := z
                have HT := Lib.hid hT; clear hT
                have HRT := Lib.hid hRT; clear hRT HG
                go_wp2_with fail
                refine (HT.out _ HS3.out).mono ?_
                rintro e w5 ⟨rfl, h5⟩
                have hlt5 := h5.r.lt
                have HS5 := Lib.hid (And.intro (h5.below ((Below.refl _ _).alloc (Nat.le_refl _) (.cells (cellsE zc zs zt zn zg) 35 (0, 0)))) (heap_alloc_new w5 (.cells (cellsE zc zs zt zn zg) 35 (0, 0)))); clear h5 HS3 HT
                go_wp2_with fail
                refine (HRT.out _ HS5.out.1).mono ?_
                rintro e w6 ⟨rfl, h6, ho⟩
                have h14 := ho.cells (Nat.ne_of_gt hlt5) HS5.out.2
                have b6 : Below w6.heap.size w6 (w6.alloc (.cells (cellsE zc zs zt zn zg) 40 (0, 0))) := (Below.refl _ _).alloc (Nat.le_refl _) _
                have HS6 := Lib.hid (And.intro (h6.below b6) (And.intro (below_cells b6 h14) (heap_alloc_new w6 (.cells (cellsE zc zs zt zn zg) 40 (0, 0)))))
                have z1 : ¬ w5.heap.size = w6.heap.size := by have := cell_lt (box5 h14).1; omega
                obtain ⟨p0, p1, p2, p3, p4⟩ := box5 HS6.out.2.1
                obtain ⟨q0, q1, q2, q3, q4⟩ := box5 HS6.out.2.2
                clear ho b6 h6 h14 HS5 HRT
                have hP2 : ∀ W, Below (w6.alloc (.cells (cellsE zc zs zt zn zg) 40 (0, 0))).heap.size (w6.alloc (.cells (cellsE zc zs zt zn zg) 40 (0, 0))) W → Calls Try.prog 11 #[entVal ⟨zc, zs, zt, zn, zg⟩] W fun e w' => e = .returned (entVal ⟨zc, zs, zt, zn, zg⟩) ∧ Hid (St B R wr.heap.size room 1 c s t n g w w' es1 es1) ∧ w'.cell? ⟨w5.heap.size, 0, none⟩ = some (.int .i64 zc) ∧ w'.cell? ⟨w5.heap.size, 1, none⟩ = some (.int .i64 zs) ∧ w'.cell? ⟨w5.heap.size, 2, none⟩ = some (.int .i64 zt) ∧ w'.cell? ⟨w5.heap.size, 3, none⟩ = some (.int .i64 zn) ∧ w'.cell? ⟨w5.heap.size, 4, none⟩ = some (.int .i64 zg) ∧ w'.cell? ⟨w6.heap.size, 0, none⟩ = some (.int .i64 zc) ∧ w'.cell? ⟨w6.heap.size, 1, none⟩ = some (.int .i64 zs) ∧ w'.cell? ⟨w6.heap.size, 2, none⟩ = some (.int .i64 zt) ∧ w'.cell? ⟨w6.heap.size, 3, none⟩ = some (.int .i64 zn) ∧ w'.cell? ⟨w6.heap.size, 4, none⟩ = some (.int .i64 zg) := by
                  intro W hW
                  refine (plain_any _ W).mono ?_
                  rintro e w' ⟨he, hb⟩
                  have h := hW.trans (hb.mono hW.size)
                  obtain ⟨p0, p1, p2, p3, p4⟩ := box5 (below_cells h HS6.out.2.1)
                  obtain ⟨q0, q1, q2, q3, q4⟩ := box5 (below_cells h HS6.out.2.2)
                  exact ⟨he, Lib.hid (HS6.out.1.below h), p0, p1, p2, p3, p4, q0, q1, q2, q3, q4⟩
                have HP2 := Lib.hid hP2; clear hP2 HS6
                go_wp2
                go_region_held3 (fun W => W.cell? ⟨w5.heap.size, 0, none⟩ = some (.int .i64 zc) ∧ W.cell? ⟨w5.heap.size, 1, none⟩ = some (.int .i64 zs) ∧ W.cell? ⟨w5.heap.size, 2, none⟩ = some (.int .i64 zt) ∧ W.cell? ⟨w5.heap.size, 3, none⟩ = some (.int .i64 zn) ∧ W.cell? ⟨w5.heap.size, 4, none⟩ = some (.int .i64 zg) ∧ W.cell? ⟨w6.heap.size, 0, none⟩ = some (.int .i64 zc) ∧ W.cell? ⟨w6.heap.size, 1, none⟩ = some (.int .i64 zs) ∧ W.cell? ⟨w6.heap.size, 2, none⟩ = some (.int .i64 zt) ∧ W.cell? ⟨w6.heap.size, 3, none⟩ = some (.int .i64 zn) ∧ W.cell? ⟨w6.heap.size, 4, none⟩ = some (.int .i64 zg))
                  ((repeat' apply And.intro) <;> (repeat (first | with_reducible assumption | with_reducible refine cell_drewN ?_ | with_reducible refine cell_drew ?_)))
                  (first
                    | (go_at_call 11; ((with_reducible refine (HP2.out _ (by repeat (first | with_reducible exact RowKit.Below.refl _ _ | with_reducible refine below_drewN ?_ _ | with_reducible refine RowKit.Below.drew ?_))).mono ?_); rintro e v3 ⟨rfl, HQ, g0, g1, g2, g3, g4, g5, g6, g7, g8, g9⟩)))
                obtain ⟨a0, a1, a2, a3, a4, a5⟩ := HQ.out.cells
                clear HP2
                go_wp2_with fail
                refine (st_same g HQ.out HG1.out).mono ?_
                rintro e w4 ⟨rfl, h4⟩
                have HN := Lib.hid (h4.pr HG1.out); clear h4 HQ HG1
                go_wp2
                go_roundw
                case rel => exact ⟨k + 1, es1, by omega, by go_num, HN⟩
                case measure => simp [intOf]; omega
              · have hk1' : (kd == 1) = false := by simp [hk1]
                have hT := fun W (hW : St B R wr.heap.size room kd c s t n g w W es es) => st_take xg hW
                have hRT := fun W (hW : St B R wr.heap.size room kd c s t n g w W (takeL xg es) es) => st_rtake xg hW HG.out
                have HG1 := Lib.hid (HG.out.take xg)
                generalize takeL xg es = es1 at hT hRT HG1
                generalize getE xg es = z at hT hRT
                generalize takeR xg es = tr at hT hRT
                obtain ⟨zc, zs, zt, zn, zg⟩ := z
                have HT := Lib.hid hT; clear hT
                have HRT := Lib.hid hRT; clear hRT HG
                go_wp2_with fail
                refine (HT.out _ HS3.out).mono ?_
                rintro e w5 ⟨rfl, h5⟩
                have hlt5 := h5.r.lt
                have HS5 := Lib.hid (And.intro (h5.below ((Below.refl _ _).alloc (Nat.le_refl _) (.cells (cellsE zc zs zt zn zg) 35 (0, 0)))) (heap_alloc_new w5 (.cells (cellsE zc zs zt zn zg) 35 (0, 0)))); clear h5 HS3 HT
                go_wp2_with fail
                refine (HRT.out _ HS5.out.1).mono ?_
                rintro e w6 ⟨rfl, h6, ho⟩
                have h14 := ho.cells (Nat.ne_of_gt hlt5) HS5.out.2
                have b6 : Below w6.heap.size w6 (w6.alloc (.cells (cellsE zc zs zt zn zg) 40 (0, 0))) := (Below.refl _ _).alloc (Nat.le_refl _) _
                have HS6 := Lib.hid (And.intro (h6.below b6) (And.intro (below_cells b6 h14) (heap_alloc_new w6 (.cells (cellsE zc zs zt zn zg) 40 (0, 0)))))
                have z1 : ¬ w5.heap.size = w6.heap.size := by have := cell_lt (box5 h14).1; omega
                obtain ⟨p0, p1, p2, p3, p4⟩ := box5 HS6.out.2.1
                obtain ⟨q0, q1, q2, q3, q4⟩ := box5 HS6.out.2.2
                clear ho b6 h6 h14 HS5 HRT
                have hP2 : ∀ W, Below (w6.alloc (.cells (cellsE zc zs zt zn zg) 40 (0, 0))).heap.size (w6.alloc (.cells (cellsE zc zs zt zn zg) 40 (0, 0))) W → Calls Try.prog 11 #[entVal ⟨zc, zs, zt, zn, zg⟩] W fun e w' => e = .returned (entVal ⟨zc, zs, zt, zn, zg⟩) ∧ Hid (St B R wr.heap.size room kd c s t n g w w' es1 es1) ∧ w'.cell? ⟨w5.heap.size, 0, none⟩ = some (.int .i64 zc) ∧ w'.cell? ⟨w5.heap.size, 1, none⟩ = some (.int .i64 zs) ∧ w'.cell? ⟨w5.heap.size, 2, none⟩ = some (.int .i64 zt) ∧ w'.cell? ⟨w5.heap.size, 3, none⟩ = some (.int .i64 zn) ∧ w'.cell? ⟨w5.heap.size, 4, none⟩ = some (.int .i64 zg) ∧ w'.cell? ⟨w6.heap.size, 0, none⟩ = some (.int .i64 zc) ∧ w'.cell? ⟨w6.heap.size, 1, none⟩ = some (.int .i64 zs) ∧ w'.cell? ⟨w6.heap.size, 2, none⟩ = some (.int .i64 zt) ∧ w'.cell? ⟨w6.heap.size, 3, none⟩ = some (.int .i64 zn) ∧ w'.cell? ⟨w6.heap.size, 4, none⟩ = some (.int .i64 zg) := by
                  intro W hW
                  refine (plain_any _ W).mono ?_
                  rintro e w' ⟨he, hb⟩
                  have h := hW.trans (hb.mono hW.size)
                  obtain ⟨p0, p1, p2, p3, p4⟩ := box5 (below_cells h HS6.out.2.1)
                  obtain ⟨q0, q1, q2, q3, q4⟩ := box5 (below_cells h HS6.out.2.2)
                  exact ⟨he, Lib.hid (HS6.out.1.below h), p0, p1, p2, p3, p4, q0, q1, q2, q3, q4⟩
                have HP2 := Lib.hid hP2; clear hP2 HS6
                go_wp2
                go_region_held3 (fun W => W.cell? ⟨w5.heap.size, 0, none⟩ = some (.int .i64 zc) ∧ W.cell? ⟨w5.heap.size, 1, none⟩ = some (.int .i64 zs) ∧ W.cell? ⟨w5.heap.size, 2, none⟩ = some (.int .i64 zt) ∧ W.cell? ⟨w5.heap.size, 3, none⟩ = some (.int .i64 zn) ∧ W.cell? ⟨w5.heap.size, 4, none⟩ = some (.int .i64 zg) ∧ W.cell? ⟨w6.heap.size, 0, none⟩ = some (.int .i64 zc) ∧ W.cell? ⟨w6.heap.size, 1, none⟩ = some (.int .i64 zs) ∧ W.cell? ⟨w6.heap.size, 2, none⟩ = some (.int .i64 zt) ∧ W.cell? ⟨w6.heap.size, 3, none⟩ = some (.int .i64 zn) ∧ W.cell? ⟨w6.heap.size, 4, none⟩ = some (.int .i64 zg))
                  ((repeat' apply And.intro) <;> (repeat (first | with_reducible assumption | with_reducible refine cell_drewN ?_ | with_reducible refine cell_drew ?_)))
                  (first
                    | (go_at_call 11; ((with_reducible refine (HP2.out _ (by repeat (first | with_reducible exact RowKit.Below.refl _ _ | with_reducible refine below_drewN ?_ _ | with_reducible refine RowKit.Below.drew ?_))).mono ?_); rintro e v3 ⟨rfl, HQ, g0, g1, g2, g3, g4, g5, g6, g7, g8, g9⟩)))
                obtain ⟨a0, a1, a2, a3, a4, a5⟩ := HQ.out.cells
                clear HP2
                go_wp2_with fail
                refine (st_same g HQ.out HG1.out).mono ?_
                rintro e w4 ⟨rfl, h4⟩
                have HN := Lib.hid (h4.pr HG1.out); clear h4 HQ HG1
                go_wp2
                go_roundw
                case rel => exact ⟨k + 1, es1, by omega, by go_num, HN⟩
                case measure => simp [intOf]; omega
      · have HN := Lib.hid HI.out.b
        go_wp2_with fail
        refine (live_any _).mono ?_
        rintro e w3 ⟨rfl, hb⟩
        have HB := Lib.hid (HN.out.trans (hb.mono HN.out.size)); clear hb HN HI
        go_wp2
        go_ret
        exact ⟨rfl, HB.out⟩
    · have k1 : ¬ (k : Int) < (len : Int) := by omega
      have HN := Lib.hid HI.out.b
      go_wp2_with fail
      refine (live_any _).mono ?_
      rintro e w3 ⟨rfl, hb⟩
      have HB := Lib.hid (HN.out.trans (hb.mono HN.out.size)); clear hb HN HI
      go_wp2
      go_ret
      exact ⟨rfl, HB.out⟩

end Go.Proofs.Ytkpjfmlhjpbdhaa
