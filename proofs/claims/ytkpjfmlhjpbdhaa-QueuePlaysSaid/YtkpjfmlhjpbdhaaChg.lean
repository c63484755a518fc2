/- Which blocks a call may have turned, by their types; no program in sight. -/
import Derived.Test.YtkpjfmlhjpbdhaaBase
namespace Go.Proofs.Ytkpjfmlhjpbdhaa
open Go.RowKit

/-- From the first world to the second one nothing was turned but blocks from 'base' on whose elements are of a type in T. -/
structure Chg (base : Nat) (T : List Nat) (w w' : World) : Prop where
  os : w'.os = w.os
  tape : w'.tape = w.tape
  output : w'.output = w.output
  size : w.heap.size ≤ w'.heap.size
  block : ∀ k, k < w.heap.size → (k < base ∨ ∀ c e f, w.heap[k]? = some (.cells c e f) → e ∉ T) → w'.heap[k]? = w.heap[k]?

theorem Chg.of_below {base : Nat} {T : List Nat} {w w' : World} (h : Below w.heap.size w w') : Chg base T w w' := ⟨h.os, h.tape, h.output, h.size, fun k hk _ => h.block k hk⟩
theorem Chg.refl (base : Nat) (T : List Nat) (w : World) : Chg base T w w := .of_below (Below.refl _ _)
theorem Chg.trans {base : Nat} {T : List Nat} {a b c : World} (h : Chg base T a b) (k : Chg base T b c) : Chg base T a c :=
  ⟨k.os.trans h.os, k.tape.trans h.tape, k.output.trans h.output, Nat.le_trans h.size k.size, fun i hi hc => by
    have e := h.block i hi hc
    rw [← e]
    exact k.block i (Nat.lt_of_lt_of_le hi h.size) (hc.imp id fun hf c e' f hb => hf c e' f (e ▸ hb))⟩
theorem Chg.mono {base base' : Nat} {T T' : List Nat} {w w' : World} (h : Chg base T w w') (hb : base' ≤ base) (hT : ∀ t, t ∈ T → t ∈ T') : Chg base' T' w w' :=
  ⟨h.os, h.tape, h.output, h.size, fun k hk hc => h.block k hk (hc.imp (fun x => Nat.lt_of_lt_of_le x hb) fun hf c e f hh ht => hf c e f hh (hT e ht))⟩
theorem Chg.below {base : Nat} {T : List Nat} {w w' : World} (h : Chg base T w w') (hb : base ≤ w.heap.size) : Below base w w' :=
  ⟨h.os, h.tape, h.output, h.size, fun k hk => h.block k (Nat.lt_of_lt_of_le hk hb) (.inl hk)⟩
theorem Chg.grown {base b : Nat} {T : List Nat} {w w' : World} {c : Array Value} {e : Nat} {f : Nat × Nat} (hg : w.grownBy w' (some b)) (hh : w.heap[b]? = some (.cells c e f)) (he : e ∈ T) (hb : base ≤ b) : Chg base T w w' :=
  ⟨hg.os, hg.tape, hg.output, hg.size, fun k hk hc => hg.block k hk fun hkb => by
    have hkb' : k = b := Option.some.inj hkb
    subst hkb'
    rcases hc with h | h
    · omega
    · exact h c e f hh he⟩
theorem Chg.setCell {base : Nat} {T : List Nat} {w : World} {p : Addr} {c : Array Value} {e : Nat} {f : Nat × Nat} (hh : w.heap[p.block]? = some (.cells c e f)) (he : e ∈ T) (hb : base ≤ p.block) (u : Value) : Chg base T w (w.setCell p u) :=
  ⟨rfl, rfl, rfl, by simp, fun k hk hc => Below.heap_setCell _ _ _ _ fun hkb => by
    subst hkb
    rcases hc with h | h
    · omega
    · exact h c e f hh he⟩
theorem Chg.cells {base : Nat} {T : List Nat} {w w' : World} (h : Chg base T w w') {b : Nat} {c : Array Value} {e : Nat} {f : Nat × Nat} (hh : w.heap[b]? = some (.cells c e f)) (he : e ∉ T) : w'.heap[b]? = some (.cells c e f) := by
  rw [h.block b (Array.getElem?_eq_some_iff.1 hh).1 (.inr fun c' e' f' hh' => by rw [hh] at hh'; cases hh'; exact he), hh]
theorem Chg.row {base base' : Nat} {T : List Nat} {w w' : World} (h : Chg base T w w') {e size n : Nat} {v : Value} {xs : List Value} (ho : w.ownsRow base' e size v n xs) (he : e ∉ T) : w'.ownsRow base' e size v n xs := by
  obtain ⟨h1, h2 | ⟨g, cap, cur, hv, hg, hh, r⟩⟩ := ho
  · exact ⟨h1, .inl h2⟩
  · exact ⟨h1, .inr ⟨g, cap, cur, hv, hg, h.cells hh he, r⟩⟩
theorem Chg.set_new {base : Nat} {T : List Nat} {w w' : World} (h : Chg base T w w') {p : Addr} (hp : w.heap.size ≤ p.block) (u : Value) : Chg base T w (w'.setCell p u) :=
  ⟨h.os, h.tape, h.output, by simpa using h.size, fun k hk hc => by rw [Below.heap_setCell _ _ _ _ (by omega)]; exact h.block k hk hc⟩
theorem Chg.alloc {base : Nat} {T : List Nat} {w w' : World} (h : Chg base T w w') (o : Obj) : Chg base T w (w'.alloc o) := h.trans (Chg.of_below ((Below.refl _ _).alloc (Nat.le_refl _) o))
theorem Chg.drewN {base : Nat} {T : List Nat} {w w' : World} (h : Chg base T w w') (n : Nat) : Chg base T w (w'.drewN n) := h.trans (Chg.of_below (below_drewN (Below.refl _ _) n))
theorem below_row {base' : Nat} {w w' : World} (h : Below w.heap.size w w') {e size n : Nat} {v : Value} {xs : List Value} (ho : w.ownsRow base' e size v n xs) : w'.ownsRow base' e size v n xs :=
  (Chg.of_below (base := 0) (T := []) h).row ho (by simp)
theorem below_cells {w w' : World} (h : Below w.heap.size w w') {b : Nat} {c : Array Value} {e : Nat} {f : Nat × Nat} (hh : w.heap[b]? = some (.cells c e f)) : w'.heap[b]? = some (.cells c e f) := by
  rw [h.block b (Array.getElem?_eq_some_iff.1 hh).1, hh]
theorem row_mono {w : World} {base base' e size n : Nat} {v : Value} {xs : List Value} (h : w.ownsRow base e size v n xs) (hb : base' ≤ base) : w.ownsRow base' e size v n xs := by
  obtain ⟨h1, h2 | ⟨g, cap, cur, hv, hg, r⟩⟩ := h
  · exact ⟨h1, .inl h2⟩
  · exact ⟨h1, .inr ⟨g, cap, cur, hv, Nat.le_trans hb hg, r⟩⟩
theorem row_drewN {w : World} {k base e size n : Nat} {v : Value} {xs : List Value} (h : w.ownsRow base e size v n xs) : (w.drewN k).ownsRow base e size v n xs := h
theorem cell_in {w : World} {b i : Nat} {c : Array Value} {e : Nat} {f : Nat × Nat} {v : Value} (hh : w.heap[b]? = some (.cells c e f)) (hv : c[i]? = some v) : w.cell? ⟨b, i, none⟩ = some v := by
  simp [World.cell?, hh, hv]
theorem frozen_in {w : World} {b i : Nat} {c : Array Value} {e : Nat} (hh : w.heap[b]? = some (.cells c e (0, 0))) : w.frozen? ⟨b, i, none⟩ = false := by
  simp [World.frozen?, hh]

end Go.Proofs.Ytkpjfmlhjpbdhaa
