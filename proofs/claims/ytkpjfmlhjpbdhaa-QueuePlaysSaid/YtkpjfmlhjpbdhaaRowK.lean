/- A row beside a queue, that the queue's methods leave as it is; no program in sight. -/
import Derived.Test.YtkpjfmlhjpbdhaaKeeps
import Derived.Test.YtkpjfmlhjpbdhaaMall
namespace Go.Proofs.Ytkpjfmlhjpbdhaa
open Go.RowKit

def RowK (w : World) (B : Nat) (v : Value) (es : List Ent) : Prop :=
  ∃ b cap cur, v = .slice (some ⟨b, 0, none⟩) es.length cap ∧ es.length ≤ cap ∧ cap ≤ maxLen ∧ Keeps w B b cur 35 ∧
    ∀ k, (hk : k < es.length) → w.cell? ⟨b, k * 5, none⟩ = some (.int .i64 (es[k]).c) ∧ w.cell? ⟨b, k * 5 + 1, none⟩ = some (.int .i64 (es[k]).s) ∧ w.cell? ⟨b, k * 5 + 2, none⟩ = some (.int .i64 (es[k]).t) ∧ w.cell? ⟨b, k * 5 + 3, none⟩ = some (.int .i64 (es[k]).n) ∧ w.cell? ⟨b, k * 5 + 4, none⟩ = some (.int .i64 (es[k]).g)

theorem RowK.mine {w w' : World} {B : Nat} {v : Value} {es : List Ent} (h : RowK w B v es) (hm : Mine B w w') : RowK w' B v es := by
  obtain ⟨b, cap, cur, hv, h1, h2, hk, hc⟩ := h
  refine ⟨b, cap, cur, hv, h1, h2, hk.mine hm, fun k hlt => ?_⟩
  have e : ∀ i, w'.cell? ⟨b, i, none⟩ = w.cell? ⟨b, i, none⟩ := fun i => World.cell?_of_block (a := ⟨b, i, none⟩) (by rw [(hk.mine hm).is, hk.is])
  rw [e, e, e, e, e]
  exact hc k hlt

theorem RowK.below {w w' : World} {B : Nat} {v : Value} {es : List Ent} (h : RowK w B v es) (hB : B < w.heap.size) (hb : Below w.heap.size w w') : RowK w' B v es := h.mine (Mine.of_below hB hb)

theorem RowK.of {w w' : World} {base B : Nat} {v : Value} {es fs : List Ent} {room : Int} (hq : IsQ w base B fs room) (hb : Below w.heap.size w w') (hr : IsRow w' w.heap.size v es) (h0 : 0 < es.length) : RowK w' B v es := by
  obtain ⟨_, ⟨e, h1⟩ | ⟨g, cap, cur, rfl, hg, hh, hcap, hm, hs, ht⟩⟩ := id hr
  · omega
  · refine ⟨g, cap, cur, rfl, hcap, hm, ⟨hh, by have := hq.lt; omega, fun e => ?_⟩, fun k hk => ?_⟩
    · rw [rowOf_below hb hq.lt] at e
      have := hq.row_lt e; omega
    · obtain ⟨b, cap', e, _, _, _, _, hc⟩ := row_at hr k hk
      cases e
      exact hc

theorem RowK.form {w : World} {B N : Nat} {v : Value} {es : List Ent} (h : RowK w B v es) (hn : es.length = N) : ∃ b cap, v = .slice (some ⟨b, 0, none⟩) N cap := by
  obtain ⟨b, cap, _, e, _⟩ := h
  exact ⟨b, cap, by rw [e, hn]⟩

theorem RowK.cells {w : World} {B N b cap : Nat} {es : List Ent} (h : RowK w B (.slice (some ⟨b, 0, none⟩) N cap) es) (k : Nat) (hk : k < es.length) :
    w.cell? ⟨b, k * 5, none⟩ = some (.int .i64 (es[k]).c) ∧ w.cell? ⟨b, k * 5 + 1, none⟩ = some (.int .i64 (es[k]).s) ∧ w.cell? ⟨b, k * 5 + 2, none⟩ = some (.int .i64 (es[k]).t) ∧ w.cell? ⟨b, k * 5 + 3, none⟩ = some (.int .i64 (es[k]).n) ∧ w.cell? ⟨b, k * 5 + 4, none⟩ = some (.int .i64 (es[k]).g) := by
  obtain ⟨b', cap', _, e, _, _, _, hc⟩ := h
  cases e
  exact hc k hk

end Go.Proofs.Ytkpjfmlhjpbdhaa
