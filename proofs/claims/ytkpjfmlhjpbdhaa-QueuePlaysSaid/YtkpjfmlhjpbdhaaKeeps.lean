/- Blocks beside a queue stay as they are; no program in sight. -/
import Derived.Test.YtkpjfmlhjpbdhaaMine
namespace Go.Proofs.Ytkpjfmlhjpbdhaa
open Go.RowKit

/-- block k is so, and is none of the queue's -/
structure Keeps (w : World) (B k : Nat) (c : Array Value) (e : Nat) : Prop where
  is : w.heap[k]? = some (.cells c e (0, 0))
  ne : k ≠ B
  nr : rowOf w B ≠ some k

theorem Keeps.lt {w : World} {B k : Nat} {c : Array Value} {e : Nat} (h : Keeps w B k c e) : k < w.heap.size := (Array.getElem?_eq_some_iff.1 h.is).1

theorem Keeps.mine {w w' : World} {B k : Nat} {c : Array Value} {e : Nat} (h : Keeps w B k c e) (hm : Mine B w w') : Keeps w' B k c e := by
  refine ⟨?_, h.ne, fun hr => ?_⟩
  · rw [hm.keep k h.lt h.ne (fun e => h.nr e.symm)]; exact h.is
  · rcases hm.row k hr with q | q
    · exact h.nr q
    · have := h.lt; omega

theorem Keeps.below {w w' : World} {B k : Nat} {c : Array Value} {e : Nat} (h : Keeps w B k c e) (hB : B < w.heap.size) (hb : Below w.heap.size w w') : Keeps w' B k c e := h.mine (Mine.of_below hB hb)

theorem IsQ.lt {w : World} {base B : Nat} {es : List Ent} {room : Int} (h : IsQ w base B es room) : B < w.heap.size := by
  obtain ⟨v, _, hh, _⟩ := h
  exact (Array.getElem?_eq_some_iff.1 hh).1

theorem IsQ.row_lt {w : World} {base B : Nat} {es : List Ent} {room : Int} (h : IsQ w base B es room) {k : Nat} (hk : rowOf w B = some k) : k < w.heap.size := by
  obtain ⟨v, _, hh, hr⟩ := h
  rw [rowOf_is hh] at hk
  obtain ⟨_, ⟨rfl, _⟩ | ⟨g, cap, cur, rfl, _, hg, _⟩⟩ := hr
  · cases hk
  · cases hk; exact (Array.getElem?_eq_some_iff.1 hg).1

theorem Keeps.new {w : World} {base B : Nat} {es : List Ent} {room : Int} (h : IsQ w base B es room) (c : Array Value) (e : Nat) : Keeps (w.alloc (.cells c e (0, 0))) B w.heap.size c e := by
  refine ⟨heap_alloc_new _ _, ?_, fun hr => ?_⟩
  · have := h.lt; omega
  · rw [rowOf_below ((Below.refl _ _).alloc (Nat.le_refl _) _) h.lt] at hr
    have := h.row_lt hr; omega

theorem Keeps.cell {w : World} {B k i : Nat} {c : Array Value} {e : Nat} {v : Value} (h : Keeps w B k c e) (hv : c[i]? = some v) : w.cell? ⟨k, i, none⟩ = some v := cell_in h.is hv

end Go.Proofs.Ytkpjfmlhjpbdhaa
