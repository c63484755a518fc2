/- Contracts: sorting a row of entries. -/
import Derived.Test.YtkpjfmlhjpbdhaaSort
namespace Go.Proofs.Ytkpjfmlhjpbdhaa
open Go.RowKit Go.Lib Go.Sort

theorem cmpLays (blk size : Nat) (w : World) : CmpLays Try.prog 42 #[] Ent.enc 5 cfE blk 0 size w :=
  fun m os dk _ x y => qcompare_any x.c x.s x.t x.n x.g y.c y.s y.t y.n y.g _

/-- later entries are not ahead of earlier ones -/
def Sorted (es : List Ent) : Prop := es.Pairwise fun x y => ¬ ltE y x

set_option maxHeartbeats 1000000 in
set_option maxRecDepth 100000 in
theorem sortFunc_any (base b cap : Nat) (cur : Array Value) (es : List Ent) (w : World) (hb : base ≤ b) (hh : w.heap[b]? = some (.cells cur 35 (0, 0))) (hcap : es.length ≤ cap) (hm : cap ≤ maxLen) (hs : cur.size = cap * 5)
    (ht : cur.toList.take (es.length * 5) = encs es) (hsz : es.length < 4611686018427387904) :
    Calls Try.prog 41 #[.slice (some ⟨b, 0, none⟩) es.length cap, .func (.func 42) #[] #[]] w fun e w' =>
      e = .returned (.tuple #[]) ∧ ∃ es' : List Ent, es'.length = es.length ∧ es'.Perm es ∧ Sorted es' ∧ IsRow w' base (.slice (some ⟨b, 0, none⟩) es.length cap) es' ∧ w.grownBy w' (some b) := by
  have hlt : b < w.heap.size := (Array.getElem?_eq_some_iff.1 hh).1
  have hH := holdsK_of hh ht
  have eg : ∀ args w, (callFunc 42 args).run Try.prog w = .ok (.enter 42 args) w := enters_of Try.func42 (by kernel_rfl) rfl
  have hlim : Lib.bitLen es.length < 4611686018427387904 := Nat.lt_of_le_of_lt (Lib.bitLen_le es.length 62 (by omega) (by omega)) (by omega)
  have hp := AnyQ.pdqsortCmpFunc_all (P := Try.prog) Try.pdqE 5 Try.isAgg35 Try.sizeOf35 Ent.enc cfE 42 #[] swoE b 0 cap es.toArray w eg (cmpLays b es.toArray.size w)
    ⟨fun _ => rfl, fun x v hv => by simp [Ent.enc] at hv; rcases hv with rfl | rfl | rfl | rfl | rfl <;> rfl, hH, hlt⟩ (es.toArray.size + 1) 0 es.toArray.size (Lib.bitLen es.length) es.toArray w (by omega) rfl (SWK.start hH) (Nat.zero_le _) (Nat.le_refl _) (by simpa using hsz) hlim (Or.inl rfl)
  have hq := pdq_sorts (ltOf cfE) swoE es.toArray 0 es.toArray.size (Lib.bitLen es.length) true true (Nat.zero_le _) (Nat.le_refl _) (Or.inl rfl)
  simp only [List.size_toArray] at hp hq
  change Calls Try.prog 49 #[.slice (some ⟨b, 0, none⟩) es.length cap, .int .i64 0, .int .i64 es.length, .int .i64 (Lib.bitLen es.length), .func (.func 42) #[] #[]] _ _ at hp
  generalize pdq (ltOf cfE) es.toArray 0 es.length (Lib.bitLen es.length) true true = d' at hp hq
  have hl : Calls Try.prog 50 #[.int .u64 (es.length : Int)] w fun e w' => e = .returned (.int .i64 (Lib.bitLen es.length : Nat)) ∧ w' = w := by
    have h := Any.bits_Len (SlLaysF0.n15.bits (P := Try.prog) Try.lenE) (es.length : Int) w (by omega) (by omega)
    rwa [Int.toNat_natCast] at h
  have wr : IntKind.u64.wrap (es.length : Int) = es.length := by simp [IntKind.wrap, IntKind.bits, IntKind.signed]; omega
  have hfin : ∀ w', SWK Ent.enc 5 w b 0 d' w' → ∃ es' : List Ent, es'.length = es.length ∧ es'.Perm es ∧ Sorted es' ∧ IsRow w' base (.slice (some ⟨b, 0, none⟩) es.length cap) es' ∧ w.grownBy w' (some b) := by
    rintro w' ⟨n, os, rfl⟩
    have hd : d'.size = es.length := by simpa using hq.1.1
    obtain ⟨h1, h2⟩ := sorted_row (es := es) (cap := cap) d' n os hb hh hcap hm hs ht hd
    refine ⟨d'.toList, by simpa using hd, ?_, ?_, h1, h2⟩
    · have := hq.1.2.2
      simp only [Array.toList_extract, List.extract_eq_take_drop, List.drop_zero, Nat.sub_zero] at this
      rwa [List.take_of_length_le (by simp [hd]), List.take_of_length_le (by simp)] at this
    · rw [Sorted, List.pairwise_iff_getElem]
      intro i j hi hj hij
      have := hq.2 i j (Nat.zero_le _) hij (by simp at hj; omega)
      rw [← Bool.not_eq_true, ltOf_iff] at this
      simp only [Array.length_toList] at hi hj
      rw [getElem!_pos d' i hi, getElem!_pos d' j hj] at this
      simpa using this
  clear hH hq hh ht hs
  have HF := Lib.hid hfin; clear hfin
  generalize es.length = k at *
  go_enter Try.func41, Try.ntmps41
  go_wp2_with (first | (go_at_call 50; refine hl.mono ?_; rintro e w' ⟨rfl, rfl⟩) | (go_at_call 49; refine hp.mono ?_; rintro e w' ⟨rfl, hsw⟩))
  go_end0
  exact ⟨rfl, HF.out _ hsw⟩

theorem sort_any (base b cap : Nat) (cur : Array Value) (es : List Ent) (w : World) (hb : base ≤ b) (hh : w.heap[b]? = some (.cells cur 35 (0, 0))) (hcap : es.length ≤ cap) (hm : cap ≤ maxLen) (hs : cur.size = cap * 5)
    (ht : cur.toList.take (es.length * 5) = encs es) (hsz : es.length < 4611686018427387904) :
    Calls Try.prog 29 #[.slice (some ⟨b, 0, none⟩) es.length cap] w fun e w' =>
      e = .returned (.tuple #[]) ∧ ∃ es' : List Ent, es'.length = es.length ∧ es'.Perm es ∧ Sorted es' ∧ IsRow w' base (.slice (some ⟨b, 0, none⟩) es.length cap) es' ∧ w.grownBy w' (some b) := by
  have hc := sortFunc_any base b cap cur es w hb hh hcap hm hs ht hsz
  clear hh ht hs
  have HC := Lib.hid hc; clear hc
  generalize hk : es.length = k at *
  have HK := Lib.hid hk; clear hk
  go_enter Try.func29, Try.ntmps29
  go_wp2_with (go_at_call 41; refine HC.out.mono ?_; rintro e w' ⟨rfl, hsw⟩)
  go_end0
  exact ⟨rfl, hsw⟩

end Go.Proofs.Ytkpjfmlhjpbdhaa
