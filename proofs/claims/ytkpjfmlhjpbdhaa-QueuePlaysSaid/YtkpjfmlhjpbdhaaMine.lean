/- Which blocks a queue's method turns: the queue's own, that of its row, and new ones; no program in sight. -/
import Derived.Test.YtkpjfmlhjpbdhaaQlab
namespace Go.Proofs.Ytkpjfmlhjpbdhaa
open Go.RowKit

/-- the block of a queue's row -/
def rowOf (w : World) (B : Nat) : Option Nat := (w.cell? ⟨B, 0, none⟩).bind Value.ownBlock

/-- nothing was turned but block B, the block of its row, and new blocks; and its row lies where it lay, or in a new block -/
structure Mine (B : Nat) (w w' : World) : Prop where
  size : w.heap.size ≤ w'.heap.size
  keep : ∀ k, k < w.heap.size → k ≠ B → some k ≠ rowOf w B → w'.heap[k]? = w.heap[k]?
  row : ∀ k, rowOf w' B = some k → rowOf w B = some k ∨ w.heap.size ≤ k

theorem rowOf_same {w w' : World} {B : Nat} (h : w'.heap[B]? = w.heap[B]?) : rowOf w' B = rowOf w B := by
  unfold rowOf; rw [World.cell?_of_block (a := ⟨B, 0, none⟩) h]

theorem rowOf_below {w w' : World} {B : Nat} (h : Below w.heap.size w w') (hB : B < w.heap.size) : rowOf w' B = rowOf w B := rowOf_same (h.block B hB)

theorem Mine.refl (B : Nat) (w : World) : Mine B w w := ⟨Nat.le_refl _, fun _ _ _ _ => rfl, fun _ h => .inl h⟩

theorem Mine.trans {B : Nat} {a b c : World} (h : Mine B a b) (k : Mine B b c) : Mine B a c :=
  ⟨Nat.le_trans h.size k.size, fun i hi hn hr => by
    rw [k.keep i (Nat.lt_of_lt_of_le hi h.size) hn fun e => ?_, h.keep i hi hn hr]
    rcases h.row i e.symm with e | e
    · exact hr e.symm
    · omega,
   fun i e => by
    rcases k.row i e with e | e
    · exact h.row i e
    · exact .inr (Nat.le_trans h.size e)⟩

theorem Mine.grown {B : Nat} {w w1 w2 : World} {row : Option Nat} (h : Mine B w w1) (hB : B < w.heap.size) (hg : w1.grownBy w2 row) (hr : ∀ k, row = some k → k ≠ B ∧ (rowOf w B = some k ∨ w.heap.size ≤ k)) : Mine B w w2 := by
  refine ⟨Nat.le_trans h.size hg.size, fun k hk hn hk2 => ?_, fun k e => h.row k ?_⟩
  · rw [hg.block k (Nat.lt_of_lt_of_le hk h.size) fun e => ?_, h.keep k hk hn hk2]
    rcases (hr k e.symm).2 with e | e
    · exact hk2 e.symm
    · omega
  · rw [← e, rowOf_same (hg.block B (Nat.lt_of_lt_of_le hB h.size) fun e => (hr B e.symm).1 rfl)]

theorem Mine.below {B : Nat} {w w1 w2 : World} (h : Mine B w w1) (hB : B < w.heap.size) (hb : Below w1.heap.size w1 w2) : Mine B w w2 :=
  h.grown hB (row := none) ⟨hb.os, hb.tape, hb.output, hb.size, fun k hk _ => hb.block k hk⟩ (fun k e => by cases e)

theorem Mine.of_below {B : Nat} {w w2 : World} (hB : B < w.heap.size) (hb : Below w.heap.size w w2) : Mine B w w2 := (Mine.refl B w).below hB hb

theorem Mine.set {B : Nat} {w w1 : World} {v u : Value} (h : Mine B w w1) (hc : w1.cell? ⟨B, 0, none⟩ = some u) (hv : ∀ k, v.ownBlock = some k → rowOf w B = some k ∨ w.heap.size ≤ k) : Mine B w (w1.setCell ⟨B, 0, none⟩ v) := by
  refine ⟨by simpa using h.size, fun k hk hn hr => ?_, fun k e => hv k ?_⟩
  · rw [Below.heap_setCell _ _ _ _ hn]; exact h.keep k hk hn hr
  · unfold rowOf at e
    rw [World.cell?_setCell_same _ _ _ hc] at e
    exact e

theorem Mine.set_new {B : Nat} {w w1 : World} {p : Addr} (h : Mine B w w1) (hB : B < w.heap.size) (hp : w.heap.size ≤ p.block) (u : Value) : Mine B w (w1.setCell p u) := by
  refine ⟨by simpa using h.size, fun k hk hn hr => ?_, fun k e => h.row k ?_⟩
  · rw [Below.heap_setCell _ _ _ _ (by omega)]; exact h.keep k hk hn hr
  · rw [← e, rowOf_same (Below.heap_setCell _ _ _ _ (by omega))]

theorem rowOf_is {w : World} {B : Nat} {v x : Value} {e : Nat} {f : Nat × Nat} (h : w.heap[B]? = some (.cells #[v, x] e f)) : rowOf w B = v.ownBlock := by
  unfold rowOf; rw [cell_in h (i := 0) (v := v) rfl]; rfl

end Go.Proofs.Ytkpjfmlhjpbdhaa
