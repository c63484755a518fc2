/- Opening a slice of labels: the cells of every label of it. -/
import Derived.Test.YtkpjfmlhjpbdhaaRows
import Derived.Test.YtkpjfmlhjpbdhaaBase
import Derived.WalkKit
import Derived.ProofKit
import Derived.OpenShut
import Derived.ChangeOld
import Derived.Below
import Derived.Deep.Slices
import Derived.Lib.SmallJoins
namespace Go.Proofs.Ytkpjfmlhjpbdhaa
open Go.ChangeShapes Go.WideShapes Go.ChangeAt Go.RowKit Go.Deep

theorem cells4 {w : World} {base : Nat} {a : Addr} {cs : List Value} (h : w.cells? base a 4 = some cs) :
    ∃ b off v0 v1 v2 v3, a = ⟨b, off, none⟩ ∧ cs = [v0, v1, v2, v3] ∧ w.cell? ⟨b, off, none⟩ = some v0 ∧ w.cell? ⟨b, off + 1, none⟩ = some v1 ∧ w.cell? ⟨b, off + 2, none⟩ = some v2 ∧ w.cell? ⟨b, off + 3, none⟩ = some v3 := by
  unfold World.cells? at h
  split at h
  · rw [show List.range 4 = [0, 1, 2, 3] from rfl] at h
    simp only [List.mapM_cons, List.mapM_nil, Option.bind_eq_bind, Option.bind_eq_some_iff, Option.pure_def, Option.some.injEq] at h
    obtain ⟨v0, h0, l0, ⟨v1, h1, l1, ⟨v2, h2, l2, ⟨v3, h3, l3, e3, e2⟩, e1⟩, e0⟩, rfl⟩ := h
    subst e0 e1 e2 e3
    obtain ⟨b, off, spot⟩ := a
    have hspot : spot = none := by simpa [Addr.add] using World.cell?_spot h0
    subst hspot
    simp only [Go.WideShapes.add_plain] at h0 h1 h2 h3
    exact ⟨b, off, v0, v1, v2, v3, rfl, rfl, h0, h1, h2, h3⟩
  · cases h

def four (o : Option TypeDesc) : Bool :=
  match o with
  | some (.struct ⟨[f0, f1, f2, f3]⟩) => f0.offset == 0 && f1.offset == 1 && f2.offset == 2 && f3.offset == 3 && f0.type == 31 && f1.type == 3 && f2.type == 3 && f3.type == 3
  | _ => false
theorem underLabels : ∃ f0 f1 f2 f3, Try.prog.underlying 33 = some (.struct #[f0, f1, f2, f3]) ∧ f0.offset = 0 ∧ f1.offset = 1 ∧ f2.offset = 2 ∧ f3.offset = 3 ∧ f0.type = 31 ∧ f1.type = 3 ∧ f2.type = 3 ∧ f3.type = 3 := by
  have h : four (Try.prog.underlying 33) = true := by kernel_rfl
  generalize Try.prog.underlying 33 = o at h
  unfold four at h
  split at h
  · rename_i f0 f1 f2 f3
    simp only [Bool.and_eq_true, beq_iff_eq] at h
    obtain ⟨⟨⟨⟨⟨⟨⟨h0, h1⟩, h2⟩, h3⟩, h4⟩, h5⟩, h6⟩, h7⟩ := h
    exact ⟨f0, f1, f2, f3, rfl, h0, h1, h2, h3, h4, h5, h6, h7⟩
  · cases h
theorem under3 : Try.prog.underlying 3 = some (.int .i64) := by kernel_rfl
theorem underClass : Try.prog.underlying 31 = some (.int .i64) := by kernel_rfl
theorem cellsClass : Try.prog.cellsOf 31 = 1 := by kernel_rfl
theorem cells3 : Try.prog.cellsOf 3 = 1 := by kernel_rfl
theorem cellsLabel : Try.prog.cellsOf 33 = 4 := by kernel_rfl

theorem open_labels {H : Type} {enc : TypeId × Value → H} {w : World} {base : Nat} {fuel : Nat} {t : TypeId} {a : Option Addr} {len cap : Nat} {x : DataW H × List MemPlace}
    (ht : Try.prog.underlying t = some (.slice 33)) (h : DataW.trod enc Try.prog w base (fun _ => true) true fuel t [.slice a len cap] = some x) :
    len ≤ maxLen ∧ ∀ k, k < len → ∃ b off c s t n, a = some ⟨b, off, none⟩ ∧ w.cell? ⟨b, off + k * 4, none⟩ = some (.int .i64 c) ∧ w.cell? ⟨b, off + k * 4 + 1, none⟩ = some (.int .i64 s) ∧ w.cell? ⟨b, off + k * 4 + 2, none⟩ = some (.int .i64 t) ∧ w.cell? ⟨b, off + k * 4 + 3, none⟩ = some (.int .i64 n) := by
  rcases open_slice ht h with ⟨hcs, _⟩ | ⟨a', l, c, m, n, D, Pl, hcs, _, hl, hm, hmm, _, hi⟩
  · simp at hcs
    obtain ⟨rfl, rfl, rfl⟩ := hcs
    exact ⟨Nat.zero_le _, fun k hk => absurd hk (Nat.not_lt_zero _)⟩
  · simp at hcs
    obtain ⟨rfl, rfl, rfl⟩ := hcs
    refine ⟨Nat.le_trans hl hm, fun k hk => ?_⟩
    simp at hmm
    obtain ⟨cs, h1, h2⟩ := hi k (by omega)
    rw [cellsLabel] at h1
    obtain ⟨b, off, v0, v1, v2, v3, ha, rfl, c0, c1, c2, c3⟩ := cells4 h1
    obtain ⟨f0, f1, f2, f3, hu, o0, o1, o2, o3, t0, t1, t2, t3⟩ := underLabels
    obtain ⟨y0, y1, y2, y3, n, _, _, g0, g1, g2, g3⟩ := Go.Joins.trod_struct4 hu h2
    rw [o0, t0, cellsClass] at g0
    rw [o1, t1, cells3] at g1
    rw [o2, t2, cells3] at g2
    rw [o3, t3, cells3] at g3
    obtain ⟨n0, e0, _, _⟩ := DataW.trod_int underClass g0
    obtain ⟨n1, e1, _, _⟩ := DataW.trod_int under3 g1
    obtain ⟨n2, e2, _, _⟩ := DataW.trod_int under3 g2
    obtain ⟨n3, e3, _, _⟩ := DataW.trod_int under3 g3
    simp at e0 e1 e2 e3
    subst e0 e1 e2 e3
    obtain ⟨cs0, h10, _⟩ := hi 0 (by omega)
    rw [cellsLabel] at h10
    obtain ⟨b0, off0, _, _, _, _, ha0, _⟩ := cells4 h10
    obtain ⟨b', off', spot⟩ := a'
    simp [Addr.add] at ha0
    obtain ⟨rfl, rfl, rfl⟩ := ha0
    rw [Go.WideShapes.add_plain] at ha
    simp at ha
    obtain ⟨rfl, rfl⟩ := ha
    exact ⟨_, _, n0, n1, n2, n3, rfl, c0, c1, c2, c3⟩

end Go.Proofs.Ytkpjfmlhjpbdhaa
