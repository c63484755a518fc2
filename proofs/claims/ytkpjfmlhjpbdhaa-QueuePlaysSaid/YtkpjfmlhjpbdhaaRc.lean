/- Contracts: the reference's queue in memory; those of its methods that only read. -/
import Derived.Test.YtkpjfmlhjpbdhaaRb
namespace Go.Proofs.Ytkpjfmlhjpbdhaa
open Go.RowKit Go.Lib Go.Sort

abbrev IsRR (w : World) (v : Value) (es : List Ent) : Prop := w.ownsRow 0 40 5 v es.length (encs es)

/-- block R is a queue of the reference, of these entries, with so much room -/
def IsR (w : World) (R : Nat) (es : List Ent) (room : Int) : Prop :=
  ∃ v, w.heap[R]? = some (.cells #[v, .int .i64 room] 73 (0, 0)) ∧ IsRR w v es

theorem IsR.below {w w' : World} {R : Nat} {es : List Ent} {room : Int} (h : IsR w R es room) (hb : Below w.heap.size w w') : IsR w' R es room := by
  obtain ⟨v, hh, hr⟩ := h
  exact ⟨v, below_cells hb hh, below_row hb hr⟩

theorem rrow_len {w : World} {v : Value} {es : List Ent} (h : IsRR w v es) : ∃ a c, v = .slice a es.length c := by
  obtain ⟨_, ⟨rfl, hn⟩ | ⟨b, cap, cur, rfl, _⟩⟩ := h
  · exact ⟨none, 0, by rw [hn]⟩
  · exact ⟨_, _, rfl⟩

theorem rrow_cells {w : World} {b : Nat} {cur : Array Value} {es : List Ent} (hh : w.heap[b]? = some (.cells cur 40 (0, 0))) (ht : cur.toList.take (es.length * 5) = encs es) :
    ∀ j u, (encs es)[j]? = some u → w.cell? ⟨b, j, none⟩ = some u := by
  intro j u hu
  rw [cell_of_row w b j cur 40 (0, 0) hh]
  rw [← ht, List.getElem?_take] at hu
  split at hu
  · simpa using hu
  · cases hu

theorem rrow_at {w : World} {v : Value} {es : List Ent} (h : IsRR w v es) (k : Nat) (hk : k < es.length) :
    ∃ b cap, v = .slice (some ⟨b, 0, none⟩) es.length cap ∧ b < w.heap.size ∧ es.length ≤ cap ∧ cap ≤ maxLen ∧
      w.cell? ⟨b, k * 5, none⟩ = some (.int .i64 (es[k]).c) ∧ w.cell? ⟨b, k * 5 + 1, none⟩ = some (.int .i64 (es[k]).s) ∧ w.cell? ⟨b, k * 5 + 2, none⟩ = some (.int .i64 (es[k]).t) ∧ w.cell? ⟨b, k * 5 + 3, none⟩ = some (.int .i64 (es[k]).n) ∧ w.cell? ⟨b, k * 5 + 4, none⟩ = some (.int .i64 (es[k]).g) := by
  obtain ⟨_, ⟨rfl, hn⟩ | ⟨b, cap, cur, rfl, hb, hh, hcap, hm, hs, ht⟩⟩ := h
  · omega
  · have hc := rrow_cells hh ht
    have he := encs_at es k hk
    have hg : es[k]! = es[k] := getElem!_pos es k hk
    rw [hg] at he
    refine ⟨b, cap, rfl, (Array.getElem?_eq_some_iff.1 hh).1, hcap, hm, hc _ _ (he 0 _ rfl), hc _ _ (he 1 _ rfl), hc _ _ (he 2 _ rfl), hc _ _ (he 3 _ rfl), hc _ _ (he 4 _ rfl)⟩

theorem rnew_ok (room : Int) (w : World) (h1 : 1 ≤ room) (h2 : room ≤ 64) : Calls Try.prog 7 #[.int .i64 room] w fun e w' =>
    e = .returned (.tuple #[.pointer (some ⟨w.heap.size, 0, none⟩), .int .i64 0]) ∧ IsR w' w.heap.size [] room ∧ Below w.heap.size w w' := by
  go_enter Try.func7, Try.ntmps7
  go_wp2
  go_ret2
  exact ⟨rfl, ⟨.slice none 0 0, heap_alloc_new _ _, World.ownsRow_nil _ _ _ _⟩, (Below.refl _ _).alloc (Nat.le_refl _) _⟩

theorem rnew_no (room : Int) (w : World) (h : room < 1 ∨ 64 < room) : Calls Try.prog 7 #[.int .i64 room] w fun e w' =>
    e = .returned (.tuple #[.pointer none, .int .i64 1]) ∧ w = w' := by
  by_cases h1 : room < 1
  · go_enter Try.func7, Try.ntmps7
    go_wp2
    go_ret2
    exact ⟨rfl, rfl⟩
  · have h2 : 64 < room := by omega
    go_enter Try.func7, Try.ntmps7
    go_wp2
    go_ret2
    exact ⟨rfl, rfl⟩

/-- the loop of find, from place k on -/
theorem idxT_drop (g : Int) : ∀ (es : List Ent) (k : Nat), (∀ i, (hi : i < es.length) → i < k → (es[i]).g ≠ g) → ∀ o, idxT g es o = idxT g (es.drop k) (o + k) := by
  intro es
  induction es with
  | nil => intro k _ o; simp [idxT]
  | cons a l ih =>
    intro k h o
    cases k with
    | zero => rfl
    | succ k =>
      have h0 : ¬ a.g = g := h 0 (by simp) (by omega)
      rw [idxT, if_neg h0, List.drop_succ_cons, ih k (fun i hi hik => h (i + 1) (by simp; omega) (by omega)) (o + 1)]
      congr 1
      omega

theorem rfind_nil (g : Int) (w : World) : Calls Try.prog 31 #[.pointer none, .int .i64 g] w fun e w' => e = .returned (.int .i64 (-1)) ∧ w = w' := by
  go_enter Try.func31, Try.ntmps31
  go_wp2
  refine wp_loop_rounds 1 ?_
  rw [rounds_succ]
  go_wp2
  go_ret
  exact ⟨rfl, rfl⟩

set_option maxHeartbeats 1000000 in
theorem rfind_any (B : Nat) (es : List Ent) (room g : Int) (w : World) (hq : IsR w B es room) : Calls Try.prog 31 #[.pointer (some ⟨B, 0, none⟩), .int .i64 g] w fun e w' =>
    e = .returned (.int .i64 (idxT g es 0)) ∧ Below w.heap.size w w' := by
  obtain ⟨v, hh, hr⟩ := hq
  obtain ⟨a, cap, rfl⟩ := rrow_len hr
  have hB : w.cell? ⟨B, 0, none⟩ = some (.slice a es.length cap) := cell_in hh rfl
  have hcells : ∀ k, (hk : k < es.length) → ∃ b, a = some ⟨b, 0, none⟩ ∧ es.length ≤ maxLen ∧ w.cell? ⟨b, k * 5 + 4, none⟩ = some (.int .i64 (es[k]).g) := by
    intro k hk
    obtain ⟨b, cap', e, _, h2, h3, _, _, _, _, c4⟩ := rrow_at hr k hk
    cases e
    exact ⟨b, rfl, Nat.le_trans h2 h3, c4⟩
  clear hr hh
  have HC := Lib.hid hcells; clear hcells
  have hstop : ∀ k, (hk : k < es.length) → (∀ i, (hi : i < es.length) → i < k → (es[i]).g ≠ g) → (es[k]).g = g → idxT g es 0 = k := by
    intro k hk h he
    rw [idxT_drop g es k h 0, List.drop_eq_getElem_cons hk, idxT, if_pos he, Nat.zero_add]
  have hend : (∀ i, (hi : i < es.length) → i < es.length → (es[i]).g ≠ g) → idxT g es 0 = -1 := by
    intro h
    rw [idxT_drop g es es.length h 0, List.drop_length]; rfl
  have HS := Lib.hid hstop; clear hstop
  have HE := Lib.hid hend; clear hend
  generalize hI : idxT g es 0 = I at HS HE ⊢
  clear hI
  go_enter Try.func31, Try.ntmps31
  go_wp2
  go_loopw [5] (fun i wr => wr = w ∧ ∃ (k : Nat), k ≤ es.length ∧ i = .int .i64 k ∧ Hid (∀ i, (hi : i < es.length) → i < k → (es[i]).g ≠ g)) (fun i _ => es.length - (intOf i).toNat)
  case atStart => exact ⟨rfl, 0, by omega, rfl, Lib.hid (fun i _ h => by omega)⟩
  case round =>
    obtain ⟨rfl, k, hk, rfl, HK⟩ := hrel
    by_cases hlt : k < es.length
    · obtain ⟨b, rfl, hm, c4⟩ := HC.out k hlt
      unfold maxLen at hm
      have k0 : (0 : Int) ≤ (k : Int) := by omega
      have k1 : (k : Int) < (es.length : Int) := by omega
      by_cases hg : (es[k]).g = g
      · have hi := HS.out k hlt HK.out hg
        subst hi
        rw [hg] at c4
        go_wp2
        go_ret
        exact ⟨rfl, Below.refl _ _⟩
      · have hg2 : ((es[k]).g == g) = false := by simp [hg]
        have HN : Hid (∀ i, (hi : i < es.length) → i < k + 1 → (es[i]).g ≠ g) := Lib.hid (fun i hi hik => by
          by_cases h : i = k
          · subst h; exact hg
          · exact HK.out i hi (by omega))
        generalize (es[k]).g = y at c4 hg2
        go_wp2
        go_roundw
        case rel => exact ⟨trivial, k + 1, by omega, by go_num, HN⟩
        case measure => simp [intOf]; omega
    · have hkn : k = es.length := by omega
      have k1 : ¬ (k : Int) < (es.length : Int) := by omega
      have hi := HE.out (fun i hi _ => HK.out i hi (by omega))
      subst hi
      go_wp2
      go_ret
      exact ⟨rfl, Below.refl _ _⟩

theorem rget_no (B : Nat) (es : List Ent) (room g : Int) (w : World) (hq : IsR w B es room) (hg : idxT g es 0 = -1) : Calls Try.prog 33 #[.pointer (some ⟨B, 0, none⟩), .int .i64 g] w fun e w' =>
    e = .returned (.tuple #[entVal ⟨0, 0, 0, 0, 0⟩, .bool false]) ∧ Below w.heap.size w w' := by
  have hcon := fun W (hW : Below w.heap.size w W) => rfind_any B es room g W (hq.below hW)
  rw [hg] at hcon
  clear hq
  have HC := Lib.hid hcon; clear hcon
  have HG := Lib.hid hg; clear hg
  go_enter Try.func33, Try.ntmps33
  go_wp2_with fail
  refine (HC.out _ ((Below.refl _ _).alloc (Nat.le_refl _) _)).mono ?_
  rintro e w' ⟨rfl, hE⟩
  obtain ⟨hc, hf⟩ := bcell hE
  have HE := Lib.hid hE; clear hE
  go_wp2
  have hb0 := ((Below.refl w.heap.size w).alloc (Nat.le_refl _) (.cells #[.int .i64 0, .int .i64 0, .int .i64 0, .int .i64 0, .int .i64 0] 40)).trans (HE.out.mono (by simp))
  exact bodyPost_ret (v := .tuple #[entVal ⟨0, 0, 0, 0, 0⟩, .bool false]) (by simp [results, Try.results33, go_sem, hc]) rfl
    ⟨rfl, ((((hb0.setCell (Nat.le_refl _) _).setCell (Nat.le_refl _) _).setCell (Nat.le_refl _) _).setCell (Nat.le_refl _) _).setCell (Nat.le_refl _) _⟩

theorem rget_yes (B : Nat) (es : List Ent) (room g : Int) (w : World) (k : Nat) (hk : k < es.length) (hq : IsR w B es room) (hg : idxT g es 0 = k) : Calls Try.prog 33 #[.pointer (some ⟨B, 0, none⟩), .int .i64 g] w fun e w' =>
    e = .returned (.tuple #[entVal es[k], .bool true]) ∧ Below w.heap.size w w' := by
  have hcon := fun W (hW : Below w.heap.size w W) => rfind_any B es room g W (hq.below hW)
  rw [hg] at hcon
  obtain ⟨v, hh, hr⟩ := hq
  obtain ⟨b, cap, rfl, hlt, hcap, hm, c0, c1, c2, c3, c4⟩ := rrow_at hr k hk
  have hB : w.cell? ⟨B, 0, none⟩ = some (.slice (some ⟨b, 0, none⟩) es.length cap) := cell_in hh rfl
  have hBl := cell_lt hB
  clear hh hr
  unfold maxLen at hm
  generalize es[k] = x at *
  obtain ⟨xc, xs, xt, xn, xg⟩ := x
  simp only at c0 c1 c2 c3 c4
  generalize es.length = n at *
  have HC := Lib.hid hcon; clear hcon
  have HG := Lib.hid hg; clear hg
  go_enter Try.func33, Try.ntmps33
  go_wp2_with fail
  refine (HC.out _ ((Below.refl _ _).alloc (Nat.le_refl _) _)).mono ?_
  rintro e w' ⟨rfl, hE⟩
  obtain ⟨hc, hf⟩ := bcell hE
  have hz := hE.size
  simp at hz
  have z1 : b < w.heap.size + 1 := by omega
  have z2 : B < w.heap.size + 1 := by omega
  have z3 : ¬ b = w.heap.size := by omega
  have z4 : ¬ B = w.heap.size := by omega
  have HE := Lib.hid hE; clear hE
  go_wp2
  have hb0 := ((Below.refl w.heap.size w).alloc (Nat.le_refl _) (.cells #[.int .i64 0, .int .i64 0, .int .i64 0, .int .i64 0, .int .i64 0] 40)).trans (HE.out.mono (by simp))
  exact bodyPost_ret (v := .tuple #[entVal ⟨xc, xs, xt, xn, xg⟩, .bool true]) (by simp [results, Try.results33, go_sem, hc]) rfl
    ⟨rfl, ((((hb0.setCell (Nat.le_refl _) _).setCell (Nat.le_refl _) _).setCell (Nat.le_refl _) _).setCell (Nat.le_refl _) _).setCell (Nat.le_refl _) _⟩

end Go.Proofs.Ytkpjfmlhjpbdhaa
