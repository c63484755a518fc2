/- QueuePlays: for every room and every slice of acts the function returns true, and the slice reads as it read before. -/
import Derived.Test.YtkpjfmlhjpbdhaaPlayW
import Derived.Test.YtkpjfmlhjpbdhaaOpen
import Derived.SizedLaws
namespace Go.Proofs.Ytkpjfmlhjpbdhaa
open Go.RowKit Go.ChangeShapes Go.WideShapes Go.ChangeAt Go.Deep Go.Joins

theorem cells6 {w : World} {base : Nat} {a : Addr} {cs : List Value} (h : w.cells? base a 6 = some cs) :
    ∃ b off v0 v1 v2 v3 v4 v5, a = ⟨b, off, none⟩ ∧ cs = [v0, v1, v2, v3, v4, v5] ∧ w.cell? ⟨b, off, none⟩ = some v0 ∧ w.cell? ⟨b, off + 1, none⟩ = some v1 ∧ w.cell? ⟨b, off + 2, none⟩ = some v2 ∧ w.cell? ⟨b, off + 3, none⟩ = some v3 ∧ w.cell? ⟨b, off + 4, none⟩ = some v4 ∧ w.cell? ⟨b, off + 5, none⟩ = some v5 := by
  unfold World.cells? at h
  split at h
  · rw [show List.range 6 = [0, 1, 2, 3, 4, 5] from rfl] at h
    simp only [List.mapM_cons, List.mapM_nil, Option.bind_eq_bind, Option.bind_eq_some_iff, Option.pure_def, Option.some.injEq] at h
    obtain ⟨v0, h0, l0, ⟨v1, h1, l1, ⟨v2, h2, l2, ⟨v3, h3, l3, ⟨v4, h4, l4, ⟨v5, h5, l5, e5, e4⟩, e3⟩, e2⟩, e1⟩, e0⟩, rfl⟩ := h
    subst e0 e1 e2 e3 e4 e5
    obtain ⟨b, off, spot⟩ := a
    have hspot : spot = none := by simpa [Addr.add] using World.cell?_spot h0
    subst hspot
    simp only [Go.WideShapes.add_plain] at h0 h1 h2 h3 h4 h5
    exact ⟨b, off, v0, v1, v2, v3, v4, v5, rfl, rfl, h0, h1, h2, h3, h4, h5⟩
  · cases h

def two (t0 t1 o1 : Nat) (o : Option TypeDesc) : Bool :=
  match o with
  | some (.struct ⟨[f0, f1]⟩) => f0.offset == 0 && f1.offset == o1 && f0.type == t0 && f1.type == t1
  | _ => false
theorem two_of {t0 t1 o1 : Nat} {o : Option TypeDesc} (h : two t0 t1 o1 o = true) : ∃ f0 f1, o = some (.struct #[f0, f1]) ∧ f0.offset = 0 ∧ f1.offset = o1 ∧ f0.type = t0 ∧ f1.type = t1 := by
  unfold two at h
  split at h
  · rename_i f0 f1
    simp only [Bool.and_eq_true, beq_iff_eq] at h
    obtain ⟨⟨⟨h0, h1⟩, h2⟩, h3⟩ := h
    exact ⟨f0, f1, rfl, h0, h1, h2, h3⟩
  · cases h
theorem underAct : ∃ f0 f1, Try.prog.underlying 37 = some (.struct #[f0, f1]) ∧ f0.offset = 0 ∧ f1.offset = 1 ∧ f0.type = 3 ∧ f1.type = 35 := two_of (by kernel_rfl)
theorem underEntry : ∃ f0 f1, Try.prog.underlying 35 = some (.struct #[f0, f1]) ∧ f0.offset = 0 ∧ f1.offset = 4 ∧ f0.type = 33 ∧ f1.type = 3 := two_of (by kernel_rfl)
theorem cellsEntry : Try.prog.cellsOf 35 = 5 := by kernel_rfl
theorem cellsAct : Try.prog.cellsOf 37 = 6 := by kernel_rfl

theorem open_acts {H : Type} {enc : TypeId × Value → H} {w : World} {base : Nat} {fuel : Nat} {t : TypeId} {a : Option Addr} {len cap : Nat} {x : DataW H × List MemPlace}
    (ht : Try.prog.underlying t = some (.slice 37)) (h : DataW.trod enc Try.prog w base (fun _ => true) true fuel t [.slice a len cap] = some x) :
    len ≤ maxLen ∧ Acts w a len := by
  rcases open_slice ht h with ⟨hcs, _⟩ | ⟨a', l, c, m, n, D, Pl, hcs, _, hl, hm, hmm, _, hi⟩
  · simp at hcs
    obtain ⟨rfl, rfl, rfl⟩ := hcs
    exact ⟨Nat.zero_le _, fun k hk => absurd hk (Nat.not_lt_zero _)⟩
  · simp at hcs
    obtain ⟨rfl, rfl, rfl⟩ := hcs
    refine ⟨Nat.le_trans hl hm, fun k hk => ?_⟩
    simp at hmm
    obtain ⟨cs, h1, h2⟩ := hi k (by omega)
    rw [cellsAct] at h1
    obtain ⟨b, off, v0, v1, v2, v3, v4, v5, ha, rfl, c0, c1, c2, c3, c4, c5⟩ := cells6 h1
    obtain ⟨f0, f1, hu, o0, o1, t0, t1⟩ := underAct
    obtain ⟨y0, y1, n, _, _, g0, g1⟩ := trod_struct2 hu h2
    rw [o0, t0, cells3] at g0
    rw [o1, t1, cellsEntry] at g1
    obtain ⟨n0, e0, _, _⟩ := DataW.trod_int under3 g0
    simp at e0
    subst e0
    obtain ⟨f0, f1, hu, o0, o1, t0, t1⟩ := underEntry
    obtain ⟨y0, y1, n, _, _, g0, g1⟩ := trod_struct2 hu g1
    rw [o0, t0, cellsLabel] at g0
    rw [o1, t1, cells3] at g1
    obtain ⟨n5, e5, _, _⟩ := DataW.trod_int under3 g1
    simp at e5
    subst e5
    obtain ⟨f0, f1, f2, f3, hu, o0, o1, o2, o3, t0, t1, t2, t3⟩ := underLabels
    obtain ⟨y0, y1, y2, y3, n, _, _, g0, g1, g2, g3⟩ := Go.Joins.trod_struct4 hu g0
    rw [o0, t0, cellsClass] at g0
    rw [o1, t1, cells3] at g1
    rw [o2, t2, cells3] at g2
    rw [o3, t3, cells3] at g3
    obtain ⟨n1, e1, _, _⟩ := DataW.trod_int underClass g0
    obtain ⟨n2, e2, _, _⟩ := DataW.trod_int under3 g1
    obtain ⟨n3, e3, _, _⟩ := DataW.trod_int under3 g2
    obtain ⟨n4, e4, _, _⟩ := DataW.trod_int under3 g3
    simp at e1 e2 e3 e4
    subst e1 e2 e3 e4
    obtain ⟨cs0, h10, _⟩ := hi 0 (by omega)
    rw [cellsAct] at h10
    obtain ⟨b0, off0, _, _, _, _, _, _, ha0, _⟩ := cells6 h10
    obtain ⟨b', off', spot⟩ := a'
    simp [Addr.add] at ha0
    obtain ⟨rfl, rfl, rfl⟩ := ha0
    rw [Go.WideShapes.add_plain] at ha
    simp at ha
    obtain ⟨rfl, rfl⟩ := ha
    exact ⟨_, _, n0, n1, n2, n3, n4, n5, rfl, c0, c1, c2, c3, c4, c5⟩

theorem play_walk (room : Int) (a : Option Addr) (len cap : Nat) (w : World) (hlen : len ≤ maxLen) (hrow : Acts w a len) :
    Calls Try.prog 3 #[.int .i64 room, .slice a len cap] w fun e w' => e = .returned (.bool true) ∧ Below w.heap.size w w' := by
  by_cases h : 1 ≤ room ∧ room ≤ 64
  · exact play_ok room a len cap w h.1 h.2 hlen hrow
  · exact play_no room a len cap w (by omega)

end Go.Proofs.Ytkpjfmlhjpbdhaa

namespace Go.Proofs.Ytkpjfmlhjpbdhaa.PlayLaw
open Go.ChangeShapes Go.WideShapes Go.ChangeAt Go.RowKit
theorem own : ownKnob Try.prog.godebug = none := by kernel_rfl
theorem laidOut : laidOutB Try.prog = true := by kernel_rfl
theorem under : Try.prog.underlying 22 = some (.slice 37) := by kernel_rfl
set_option maxRecDepth 100000 in
theorem lifted (os : Os) (started : os.Started) (H : Type) (enc : TypeId × Value → H) :
    ReturnsInHanded {} Try.checked os 3 .any (Rows.queuePlaysSpec.pre6 enc Try.prog Try.f3 Rows.queuePlaysRow.domain false) (Rows.queuePlaysSpec.post enc Try.prog Try.f3 false true false false) := by
  refine returnsInHanded_of_change (C := Try.checked) own started (by kernel_rfl) Try.func3
    (ChangeSpec.witness6 (enc := enc) (C := Try.checked) false ⟨#[], #[.int .i64 0, .slice none 0 0], []⟩ 8 (by kernel_rfl) (by kernel_rfl) (by kernel_rfl) (by kernel_rfl)) ?_
  intro W base args ds gs before hval0 hW hcnd _
  have hval : ∀ (j : Nat) t v, Try.f3.params[j]? = some t → args[j]? = some v → Value.okWide Try.prog W .any base t v := hval0
  have hW' := hW
  obtain ⟨p, q, hA0, hV, rfl, hfz, hnd⟩ := hW
  have hA : DataW.TrodAll enc Try.prog W 0 (fun _ => true) true Try.f3.params.toList args.toList ds p := hA0
  rw [Try.params3] at hA hval
  obtain ⟨v0, vs0, d0, ds0, p0, q0, hargs, rfl, rfl, h0, r0⟩ := trodAll_cons hA
  obtain ⟨v1, vs1, d1, ds1, p1, q1, rfl, rfl, rfl, h1, r1⟩ := trodAll_cons r0
  obtain ⟨rfl, rfl, rfl⟩ := trodAll_nil r1
  obtain rfl : args = #[v0, v1] := by cases args; simp_all
  obtain ⟨rfl, rfl⟩ := trodVars_none hV
  obtain ⟨x0, rfl, rfl, rfl, w0⟩ := open_int under3 (hval 0 3 v0 rfl rfl) h0
  obtain ⟨a0, len0, cap0, rfl⟩ := okWide_slice under (hval 1 22 v1 rfl rfl)
  have k0 := h1
  have lt0 : ∀ x ∈ p1, x.block < W.heap.size := by obtain ⟨m, hm⟩ := k0; exact DataW.trod_lt m _ _ _ hm
  obtain ⟨fuel, hf⟩ := h1
  obtain ⟨hl, hr⟩ := open_acts under hf
  clear hA0 hval0
  refine (play_walk x0 a0 len0 cap0 W hl hr).mono fun e W' ⟨he, bel⟩ => ?_
  subst he
  exact ⟨_, rfl, _, _, _, [], _, [], hW', trodAll_mk1 (shut_bool (by kernel_rfl) _), (trodAll_cons_mk (shut_int under3 w0) (trodAll_cons_mk (Below.trod laidOut (by kernel_rfl) (of_decide_eq_true (by kernel_rfl)) k0 bel lt0) trodAll_mk0)), rfl, bel.frame _, fun h => by cases h⟩
theorem over : Rows.queuePlaysRow.holds Try.pinned (OpenSpec.ofChange Rows.queuePlaysSpec) :=
  OpenClaim.holds_of_wide 3 Try.f3 rfl rfl rfl rfl rfl rfl rfl ⟨rfl, rfl, rfl, rfl, rfl⟩ rfl rfl rfl rfl rfl (by kernel_rfl) Try.func3 (by kernel_rfl)
    (of_decide_eq_true (by kernel_rfl)) (by unfold Func.isWrapper; first | (rw [if_pos (by decide +kernel)]; kernel_rfl) | (rw [if_neg (by decide +kernel)]; exact ⟨rfl, rfl⟩))
    (fun os started H enc _ => lifted os started H enc)
end Go.Proofs.Ytkpjfmlhjpbdhaa.PlayLaw
namespace Go.Proofs.Ytkpjfmlhjpbdhaa
/-- The given statement on QueuePlays. -/
theorem queuePlays_holds : Rows.QueuePlaysSaid := PlayLaw.over
#print axioms queuePlays_holds
end Go.Proofs.Ytkpjfmlhjpbdhaa
