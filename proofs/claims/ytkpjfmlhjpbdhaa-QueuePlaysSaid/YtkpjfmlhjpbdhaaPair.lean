/- Contracts: the queue's methods and the reference's, side by side, on the same entries. -/
import Derived.Test.YtkpjfmlhjpbdhaaSame
import Derived.Test.YtkpjfmlhjpbdhaaLive
namespace Go.Proofs.Ytkpjfmlhjpbdhaa
open Go.RowKit Go.Lib Go.Sort

def putR (room : Int) (es : List Ent) (x : Ent) : Int :=
  if lright x.c x.s x.t x.n = false then 1 else if idxT x.g es 0 ≠ -1 then 13 else if room ≤ es.length then 6 else 0
def putL (room : Int) (es : List Ent) (x : Ent) : List Ent := if putR room es x = 0 then ins x es else es
def takeV (g : Int) (es : List Ent) : Ent := getE g es
def takeR (g : Int) (es : List Ent) : Int := if idxT g es 0 = -1 then 7 else 0
def takeL (g : Int) (es : List Ent) : List Ent := if idxT g es 0 = -1 then es else es.eraseIdx (idxT g es 0).toNat
def labR (g : Int) (es : List Ent) (c s t n : Int) : Int := if idxT g es 0 = -1 then 7 else if lright c s t n = false then 1 else 0
def labL (g : Int) (es : List Ent) (c s t n : Int) : List Ent :=
  if labR g es c s t n = 0 then ins ((getE g es).lab c s t n) (es.eraseIdx (idxT g es 0).toNat) else es

structure Good (room : Int) (es : List Ent) : Prop where
  s : Sorted es
  n : (es.length : Int) ≤ room
  m : room ≤ 64
theorem Good.lt {room : Int} {es : List Ent} (h : Good room es) : es.length < 1000000 := by have := h.n; have := h.m; omega

theorem ins_length (x : Ent) (l : List Ent) : (ins x l).length = l.length + 1 := by rw [(ins_perm x l).length_eq]; simp
theorem Good.put {room : Int} {es : List Ent} (h : Good room es) (x : Ent) : Good room (putL room es x) := by
  unfold putL
  split
  · rename_i e
    refine ⟨ins_sorted x es h.s, ?_, h.m⟩
    rw [ins_length]
    unfold putR at e
    split at e
    · omega
    · split at e
      · omega
      · split at e
        · omega
        · omega
  · exact h
theorem sorted_erase {l : List Ent} (h : Sorted l) (k : Nat) : Sorted (l.eraseIdx k) := List.Pairwise.sublist (List.eraseIdx_sublist _ _) h
theorem Good.take {room : Int} {es : List Ent} (h : Good room es) (g : Int) : Good room (takeL g es) := by
  unfold takeL
  split
  · exact h
  · exact ⟨sorted_erase h.s _, by have := List.length_eraseIdx_le es (idxT g es 0).toNat; have := h.n; omega, h.m⟩
theorem Good.lab {room : Int} {es : List Ent} (h : Good room es) (g c s t n : Int) : Good room (labL g es c s t n) := by
  unfold labL
  split
  · rename_i e
    refine ⟨ins_sorted _ _ (sorted_erase h.s _), ?_, h.m⟩
    rw [ins_length]
    rcases idxT_cases g es 0 with h1 | ⟨k, hk, h1⟩
    · unfold labR at e; rw [if_pos h1] at e; omega
    · rw [h1]
      have := h.n
      rw [List.length_eraseIdx_of_lt (by simpa using hk)]
      omega
  · exact h

/-- both queues, what lay before, and an act's box -/
structure St (B R A : Nat) (room k c s t n g : Int) (w0 w : World) (es fs : List Ent) : Prop where
  q : IsQ w B B es room
  r : IsR w R fs room
  b : Below w0.heap.size w0 w
  hB : w0.heap.size ≤ B
  hR : w0.heap.size ≤ R
  a : w.heap[A]? = some (.cells #[.int .i64 k, .int .i64 c, .int .i64 s, .int .i64 t, .int .i64 n, .int .i64 g] 37 (0, 0))

theorem St.below {B R A : Nat} {room k c s t n g : Int} {w0 w w' : World} {es fs : List Ent} (h : St B R A room k c s t n g w0 w es fs) (hb : Below w.heap.size w w') : St B R A room k c s t n g w0 w' es fs :=
  ⟨h.q.below hb, h.r.below hb, h.b.trans (hb.mono h.b.size), h.hB, h.hR, below_cells hb h.a⟩
theorem St.drewN {B R A : Nat} {room k c s t n g : Int} {w0 w : World} {es fs : List Ent} (h : St B R A room k c s t n g w0 w es fs) (q : Nat) : St B R A room k c s t n g w0 (w.drewN q) es fs := h.below (below_drewN (Below.refl _ _) _)
theorem St.drew {B R A : Nat} {room k c s t n g : Int} {w0 w : World} {es fs : List Ent} (h : St B R A room k c s t n g w0 w es fs) : St B R A room k c s t n g w0 w.drew es fs := h.below (Below.refl _ _).drew
theorem St.qturn {B R A : Nat} {room k c s t n g : Int} {w0 w w' : World} {es fs es' : List Ent} (h : St B R A room k c s t n g w0 w es fs) (hq : IsQ w' B B es' room) (hc : Chg B [35, 70] w w') : St B R A room k c s t n g w0 w' es' fs := by
  obtain ⟨v, hh, hr⟩ := h.r
  exact ⟨hq, ⟨v, hc.cells hh (by decide), hc.row hr (by decide)⟩, h.b.trans ((hc.below (Nat.le_of_lt h.q.lt)).mono h.hB), h.hB, h.hR, hc.cells h.a (by decide)⟩
theorem St.rturn {B R A : Nat} {room k c s t n g : Int} {w0 w w' : World} {es fs fs' : List Ent} (h : St B R A room k c s t n g w0 w es fs) (hr : IsR w' R fs' room) (ho : Only R w w') : St B R A room k c s t n g w0 w' es fs' := by
  obtain ⟨v, hh, _⟩ := h.r
  have hne : ∀ {i : Nat} {cs : Array Value} {ty : Nat}, w.heap[i]? = some (.cells cs ty (0, 0)) → ty ≠ 73 → i ≠ R := by
    intro i cs ty hi hty e
    subst e
    rw [hh] at hi
    cases hi
    exact hty rfl
  obtain ⟨u, hb, hhB, h1, h2 | ⟨b, cap, cur, hv, hg, hh2, r⟩⟩ := h.q
  · exact ⟨⟨u, hb, ho.cells (hne hhB (by decide)) hhB, h1, .inl h2⟩, hr, h.b.trans (ho.below h.hR h.b.size), h.hB, h.hR, ho.cells (hne h.a (by decide)) h.a⟩
  · exact ⟨⟨u, hb, ho.cells (hne hhB (by decide)) hhB, h1, .inr ⟨b, cap, cur, hv, hg, ho.cells (hne hh2 (by decide)) hh2, r⟩⟩, hr, h.b.trans (ho.below h.hR h.b.size), h.hB, h.hR, ho.cells (hne h.a (by decide)) h.a⟩
theorem St.cells {B R A : Nat} {room k c s t n g : Int} {w0 w : World} {es fs : List Ent} (h : St B R A room k c s t n g w0 w es fs) :
    w.cell? ⟨A, 0, none⟩ = some (.int .i64 k) ∧ w.cell? ⟨A, 1, none⟩ = some (.int .i64 c) ∧ w.cell? ⟨A, 2, none⟩ = some (.int .i64 s) ∧ w.cell? ⟨A, 3, none⟩ = some (.int .i64 t) ∧ w.cell? ⟨A, 4, none⟩ = some (.int .i64 n) ∧ w.cell? ⟨A, 5, none⟩ = some (.int .i64 g) :=
  ⟨cell_in h.a rfl, cell_in h.a rfl, cell_in h.a rfl, cell_in h.a rfl, cell_in h.a rfl, cell_in h.a rfl⟩

variable {B R A : Nat} {room k c s t n g : Int} {w0 w : World} {es fs : List Ent}

theorem st_plain (x : Ent) (h : St B R A room k c s t n g w0 w es fs) : Calls Try.prog 11 #[entVal x] w fun e w' => e = .returned (entVal x) ∧ St B R A room k c s t n g w0 w' es fs :=
  (plain_any x w).mono fun _ _ ⟨he, hb⟩ => ⟨he, h.below hb⟩

theorem st_put (x : Ent) (h : St B R A room k c s t n g w0 w es fs) (hg : Good room es) : Calls Try.prog 9 #[.pointer (some ⟨B, 0, none⟩), entVal x] w fun e w' => e = .returned (.int .i64 (putR room es x)) ∧ St B R A room k c s t n g w0 w' (putL room es x) fs := by
  by_cases h1 : lright x.c x.s x.t x.n = false
  · have e : putR room es x = 1 := by unfold putR; rw [if_pos h1]
    unfold putL; rw [e, if_neg (by decide)]
    exact (put_range B x w h1).mono fun _ _ ⟨he, hb⟩ => ⟨he, h.below hb⟩
  · have h1' : lright x.c x.s x.t x.n = true := by simpa using h1
    rcases idxT_cases x.g es 0 with h2 | ⟨j, hj, h2⟩
    · by_cases h3 : room ≤ es.length
      · have e : putR room es x = 6 := by unfold putR; rw [if_neg h1, if_neg (by omega), if_pos h3]
        unfold putL; rw [e, if_neg (by decide)]
        exact (put_full B B es room x w h.q h1' h2 h3).mono fun _ _ ⟨he, hb⟩ => ⟨he, h.below hb⟩
      · have e : putR room es x = 0 := by unfold putR; rw [if_neg h1, if_neg (by omega), if_neg h3]
        unfold putL; rw [e, if_pos rfl]
        refine (put_okm B B es room x w (Nat.le_of_lt h.q.lt) h.q h1' h2 (by omega) hg.lt).mono ?_
        rintro e w' ⟨he, es', hp, hs, hq, hc, _⟩
        obtain rfl : es' = ins x es := sorted_unique hs (ins_sorted x es hg.s) (hp.trans (ins_perm x es).symm)
        exact ⟨he, h.qturn hq hc⟩
    · have e : putR room es x = 13 := by unfold putR; rw [if_neg h1, if_pos (by omega)]
      unfold putL; rw [e, if_neg (by decide)]
      exact (put_twice B B es room x w h.q h1' (by omega)).mono fun _ _ ⟨he, hb⟩ => ⟨he, h.below hb⟩

theorem st_rput (x : Ent) (h : St B R A room k c s t n g w0 w es fs) (hg : Good room fs) : Calls Try.prog 10 #[.pointer (some ⟨R, 0, none⟩), entVal x] w fun e w' => e = .returned (.int .i64 (putR room fs x)) ∧ St B R A room k c s t n g w0 w' es (putL room fs x) := by
  by_cases h1 : lright x.c x.s x.t x.n = false
  · have e : putR room fs x = 1 := by unfold putR; rw [if_pos h1]
    unfold putL; rw [e, if_neg (by decide)]
    exact (rput_range R x w h1).mono fun _ _ ⟨he, hb⟩ => ⟨he, h.below hb⟩
  · have h1' : lright x.c x.s x.t x.n = true := by simpa using h1
    rcases idxT_cases x.g fs 0 with h2 | ⟨j, hj, h2⟩
    · by_cases h3 : room ≤ fs.length
      · have e : putR room fs x = 6 := by unfold putR; rw [if_neg h1, if_neg (by omega), if_pos h3]
        unfold putL; rw [e, if_neg (by decide)]
        exact (rput_full R fs room x w h.r h1' h2 h3).mono fun _ _ ⟨he, hb⟩ => ⟨he, h.below hb⟩
      · have e : putR room fs x = 0 := by unfold putR; rw [if_neg h1, if_neg (by omega), if_neg h3]
        unfold putL; rw [e, if_pos rfl]
        exact (rput_ok R fs room x w h.r h1' h2 (by omega) hg.lt).mono fun _ _ ⟨he, hr, ho⟩ => ⟨he, h.rturn hr ho⟩
    · have e : putR room fs x = 13 := by unfold putR; rw [if_neg h1, if_pos (by omega)]
      unfold putL; rw [e, if_neg (by decide)]
      exact (rput_twice R fs room x w h.r h1' (by omega)).mono fun _ _ ⟨he, hb⟩ => ⟨he, h.below hb⟩

theorem st_take (y : Int) (h : St B R A room k c s t n g w0 w es fs) : Calls Try.prog 15 #[.pointer (some ⟨B, 0, none⟩), .int .i64 y] w fun e w' => e = .returned (.tuple #[entVal (getE y es), .int .i64 (takeR y es)]) ∧ St B R A room k c s t n g w0 w' (takeL y es) fs := by
  unfold takeR takeL
  rcases idxT_cases y es 0 with h2 | ⟨j, hj, h2⟩
  · rw [if_pos h2, if_pos h2, (getE_no h2).1]
    exact (take_no B B es room y w h.q h2).mono fun _ _ ⟨he, hb⟩ => ⟨he, h.below hb⟩
  · rw [Nat.zero_add] at h2
    rw [if_neg (by omega), if_neg (by omega), (getE_of hj h2).1, h2, Int.toNat_natCast]
    exact (take_yesm B B es room y w j hj h.q h2).mono fun _ _ ⟨he, hq, hc, _⟩ => ⟨he, h.qturn hq hc⟩
theorem st_rtake (y : Int) (h : St B R A room k c s t n g w0 w es fs) (hg : Good room fs) : Calls Try.prog 16 #[.pointer (some ⟨R, 0, none⟩), .int .i64 y] w fun e w' => e = .returned (.tuple #[entVal (getE y fs), .int .i64 (takeR y fs)]) ∧ St B R A room k c s t n g w0 w' es (takeL y fs) ∧ Only R w w' := by
  unfold takeR takeL
  rcases idxT_cases y fs 0 with h2 | ⟨j, hj, h2⟩
  · rw [if_pos h2, if_pos h2, (getE_no h2).1]
    exact (rtake_no R fs room y w h.r h2).mono fun _ _ ⟨he, hb⟩ => ⟨he, h.below hb, Only.of_below hb⟩
  · rw [Nat.zero_add] at h2
    rw [if_neg (by omega), if_neg (by omega), (getE_of hj h2).1, h2, Int.toNat_natCast]
    exact (rtake_yes R fs room y j w hj hg.lt h.r h2).mono fun _ _ ⟨he, hr, ho⟩ => ⟨he, h.rturn hr.isR ho, ho⟩

theorem set_lab_perm (es : List Ent) (j : Nat) (hj : j < es.length) (x : Ent) : (es.set j x).Perm (es.eraseIdx j ++ [x]) := by
  rw [List.set_eq_take_append_cons_drop, if_pos hj, List.eraseIdx_eq_take_drop_succ, List.append_assoc]
  exact List.Perm.append_left _ (List.perm_append_singleton x _).symm

theorem st_lab (y lc ls lt ln : Int) (h : St B R A room k c s t n g w0 w es fs) (hg : Good room es) : Calls Try.prog 12 #[.pointer (some ⟨B, 0, none⟩), .int .i64 y, labV lc ls lt ln] w fun e w' => e = .returned (.int .i64 (labR y es lc ls lt ln)) ∧ St B R A room k c s t n g w0 w' (labL y es lc ls lt ln) fs := by
  unfold labL
  rcases idxT_cases y es 0 with h2 | ⟨j, hj, h2⟩
  · have e : labR y es lc ls lt ln = 7 := by unfold labR; rw [if_pos h2]
    rw [e, if_neg (by decide)]
    exact (label_none B B es room y lc ls lt ln w h.q h2).mono fun _ _ ⟨he, hb⟩ => ⟨he, h.below hb⟩
  · rw [Nat.zero_add] at h2
    by_cases h1 : lright lc ls lt ln = false
    · have e : labR y es lc ls lt ln = 1 := by unfold labR; rw [if_neg (by omega), if_pos h1]
      rw [e, if_neg (by decide)]
      exact (label_range B B es room y lc ls lt ln w h.q (by omega) h1).mono fun _ _ ⟨he, hb⟩ => ⟨he, h.below hb⟩
    · have e : labR y es lc ls lt ln = 0 := by unfold labR; rw [if_neg (by omega), if_neg h1]
      rw [e, if_pos rfl, (getE_of hj h2).1, h2, Int.toNat_natCast]
      refine (label_okm B B es room y lc ls lt ln j w hj hg.lt h.q h2 (by simpa using h1)).mono ?_
      rintro e w' ⟨he, es', hp, hs, hq, hc, _⟩
      obtain rfl : es' = ins ((es[j]).lab lc ls lt ln) (es.eraseIdx j) := sorted_unique hs (ins_sorted _ _ (sorted_erase hg.s j)) ((hp.trans (set_lab_perm es j hj _)).trans (ins_perm _ _).symm)
      exact ⟨he, h.qturn hq hc⟩

theorem st_rlab (y lc ls lt ln : Int) (h : St B R A room k c s t n g w0 w es fs) (hg : Good room fs) : Calls Try.prog 13 #[.pointer (some ⟨R, 0, none⟩), .int .i64 y, labV lc ls lt ln] w fun e w' => e = .returned (.int .i64 (labR y fs lc ls lt ln)) ∧ St B R A room k c s t n g w0 w' es (labL y fs lc ls lt ln) := by
  unfold labL
  rcases idxT_cases y fs 0 with h2 | ⟨j, hj, h2⟩
  · have e : labR y fs lc ls lt ln = 7 := by unfold labR; rw [if_pos h2]
    rw [e, if_neg (by decide)]
    exact (rlabel_none R fs room y lc ls lt ln w h.r h2).mono fun _ _ ⟨he, hb⟩ => ⟨he, h.below hb⟩
  · rw [Nat.zero_add] at h2
    by_cases h1 : lright lc ls lt ln = false
    · have e : labR y fs lc ls lt ln = 1 := by unfold labR; rw [if_neg (by omega), if_pos h1]
      rw [e, if_neg (by decide)]
      exact (rlabel_range R fs room y lc ls lt ln j w hj h.r h2 h1).mono fun _ _ ⟨he, hb⟩ => ⟨he, h.below hb⟩
    · have e : labR y fs lc ls lt ln = 0 := by unfold labR; rw [if_neg (by omega), if_neg h1]
      rw [e, if_pos rfl, (getE_of hj h2).1, h2, Int.toNat_natCast]
      exact (rlabel_ok R fs room y lc ls lt ln j w hj hg.lt h.r h2 (by simpa using h1)).mono fun _ _ ⟨he, hr, ho⟩ => ⟨he, h.rturn hr ho⟩

theorem st_rhead (h : St B R A room k c s t n g w0 w es fs) : Calls Try.prog 14 #[.pointer (some ⟨R, 0, none⟩)] w fun e w' => e = .returned (.tuple #[entVal (headE fs), .bool (headB fs)]) ∧ St B R A room k c s t n g w0 w' es fs :=
  (rhead_any R fs room w h.r).mono fun _ _ ⟨he, hb⟩ => ⟨he, h.below hb⟩

theorem st_same (y : Int) (h : St B R A room k c s t n g w0 w es es) (hg : Good room es) : Calls Try.prog 17 #[.pointer (some ⟨B, 0, none⟩), .pointer (some ⟨R, 0, none⟩), .int .i64 y] w fun e w' => e = .returned (.bool true) ∧ St B R A room k c s t n g w0 w' es es :=
  (same_any B R es room y w hg.lt ⟨h.q, h.r, Below.refl _ _⟩).mono fun _ _ ⟨he, hb⟩ => ⟨he, h.below hb⟩

end Go.Proofs.Ytkpjfmlhjpbdhaa
