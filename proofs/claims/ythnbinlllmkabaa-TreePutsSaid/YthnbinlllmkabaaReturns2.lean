/- returns, walked. -/
import Derived.Test.YthnbinlllmkabaaReturns
namespace Go.Proofs.Ythnbinlllmkabaa
open Go.RowKit Go.Shelf
set_option linter.unusedVariables false
set_option linter.unusedSimpArgs false

theorem alike_refl (n : Nd) : n.alike n = true := by have := alike_self n n.name; rwa [named_self] at this
theorem subAt_of {n : Nd} {s : ByteArray} (h : splitErr s 64 = 0) : subAt n s = subOf n (pieces s) := by unfold subAt; rw [if_pos h]
theorem dropErr_ok {n : Nd} {s : ByteArray} (h1 : splitErr s 64 = 0) (h2 : pieces s ≠ []) (h3 : wayOf n (pieces s) = true) (h4 : (subOf n (pieces s)).isSome = true) : dropErr n s = 0 := by
  unfold dropErr
  rw [if_neg (by simp [h1]), if_neg h2, if_neg (by simp [h3]), if_neg (by intro e; rw [e] at h4; cases h4)]
/-- What Put and Drop say, for returns. -/
structure Back (n X : Nd) (s : ByteArray) (P : Nat) : Prop where
  fn : Fine n P
  fX : Fine X P
  split : splitErr s 64 = 0
  ne : pieces s ≠ []
  way : wayOf n (pieces s) = true
  wayX : wayOf X (pieces s) = true
  subX : (subOf X (pieces s)).isSome = true
  drop0 : subOf n (pieces s) = none → withOf X (pieces s) none = some n
  again : ∀ b, (b.isSome = true ∨ (subOf n (pieces s)).isSome = true) → withOf X (pieces s) b = withOf n (pieces s) b
theorem back_of {n a X : Nd} {s : ByteArray} {P Q : Nat} (fn : Fine n P) (hPQ : P ≤ Q) (fX : Fine X Q) (ha : putErr n s a = 0) (hne : pieces s ≠ []) (hX : withOf n (pieces s) (some a) = some X) : Back n X s Q := by
  obtain ⟨h1, h2, h3⟩ := putErr_ne.1 ha
  obtain ⟨nm, hs⟩ := sub_put _ n a X fn.ris h2 hX
  exact ⟨⟨fn.ris, fn.oks, fn.dep, Nat.le_trans fn.parts hPQ⟩, fX, h1, hne, h2, way_put _ n X (some a) hne fn.ris h2 (.inl rfl) hX, by rw [hs]; rfl, fun h => drop_new _ n a X hne fn.ris h2 h hX,
    fun b hb => put_again _ n X (some a) b hne fn.ris h2 (.inl rfl) (by rcases hb with hb | hb; exact .inl hb; exact .inr ⟨rfl, hb⟩) hX⟩
set_option maxHeartbeats 4000000 in
set_option maxRecDepth 100000 in
theorem returns_any (d e : Nat) (w : World) (p q : Nat) (n X : Nd) (s : ByteArray) (P : Nat) (hP : P ≤ 400000) (hB : Back n X s P) (ht : TreeAt w Any d p n) (hx : TreeAt w Any e q X) (hs : s.size ≤ 1000000000) :
    Calls Try.prog 54 #[.pointer (some ⟨p, 0, none⟩), .pointer (some ⟨q, 0, none⟩), .string s] w fun e' w' => e' = .returned (.bool true) ∧ Below w.heap.size w w' := by
  have hdX := dropErr_ok hB.split hB.ne hB.wayX hB.subX
  have HB := Lib.hid hB
  have Ht := Lib.hid ht
  have cn := hB.fn.cnt
  have cX := hB.fX.cnt
  have Hdr := Lib.hid (drop_ok Any e w q X s hx hB.fX.ris (by omega) hs hdX)
  obtain ⟨Y, hY⟩ : ∃ Y, Y = dropOf X s := ⟨_, rfl⟩
  have hwY : withOf X (pieces s) none = some Y := by rw [hY]; exact (dropErr_zero hdX).2.2.2.2
  rw [← hY] at Hdr
  have HwY := Lib.hid hwY
  have pY := withOf_parts _ X none Y hwY
  have sY := sizes_ok _ (splitErr_zero hB.split).2
  have lY := Nat.mul_le_mul_right 255 (splitErr_zero hB.split).1
  have pX := hB.fX.parts
  have pN := hB.fn.parts
  have hYp : Y.parts ≤ 1000000 := by
    have h0 : partsO none = 0 := rfl
    omega
  clear hB ht hx hdX hY hwY pY sY lY
  go_enter Try.func54, Try.ntmps54
  go_wp2_with fail
  refine Hdr.out.mono ?_
  rintro e1 w1 ⟨y, rfl, hty, hb1⟩
  have Hty := Lib.hid hty.any
  have Hb1 := Lib.hid hb1
  have Ht1 := Lib.hid (Ht.out.below hb1)
  have Hsub := Lib.hid (sub_any Any d w1 p n s Ht1.out HB.out.fn.ris (by omega) hs HB.out.split)
  clear hty hb1 Hdr
  go_wp2_with fail
  refine Hsub.out.mono ?_
  rintro e2 w2 ⟨hcase, hb2⟩
  have Hb2 := Lib.hid (below_on Hb1.out hb2)
  have Ht2 := Lib.hid (Ht1.out.below hb2)
  have Hty2 := Lib.hid (Hty.out.below hb2)
  clear hb2 Hsub
  rcases hcase with ⟨h0, rfl⟩ | ⟨k, o, hk, rfl, hto, hrk, hck⟩
  · have hYn : Y = n := by
      have h := HB.out.drop0 h0
      rw [HwY.out] at h
      injection h
    have heq := equal_any Any Any e d w2 y p Y n Hty2.out Ht2.out hYp (by omega)
    rw [hYn, alike_refl] at heq
    have Heq := Lib.hid heq
    clear h0 hYn heq
    go_wp2_with fail
    refine Heq.out.mono ?_
    rintro e3 w3 ⟨rfl, hb3⟩
    have Hb3 := Lib.hid (below_on Hb2.out hb3)
    clear hb3
    go_wp2
    go_ret
    exact ⟨rfl, Hb3.out⟩
  · have hk1 : (subOf n (pieces s)).isSome = true := by rw [hk]; rfl
    have hYn : withOf n (pieces s) none = some Y := by rw [← HB.out.again none (.inr hk1)]; exact HwY.out
    have hZ : withOf Y (pieces s) (some k) = some n := by
      rw [put_again _ X Y none (some k) HB.out.ne HB.out.fX.ris HB.out.wayX (.inr HB.out.subX) (.inl rfl) HwY.out, HB.out.again (some k) (.inl rfl)]
      exact put_same _ n k HB.out.fn.ris hk
    have hYr := withOf_ris _ X none Y HB.out.fX.ris (fun x hx => by cases hx) HwY.out
    have hYw := way_put _ X Y none HB.out.ne HB.out.fX.ris HB.out.wayX (.inr HB.out.subX) HwY.out
    have hdk := subOf_dep _ n k hk
    have hdn := HB.out.fn.dep
    have hpe : putErr Y s k = 0 := putErr_ne.2 ⟨HB.out.split, hYw, by omega⟩
    have hYc := cnt_le_parts Y
    have hput := put_ok Any e d w2 y o Y k s Hty2.out hto hYr (by omega) hs hpe
    have hpo : putOf Y s k = n := by
      have h := putOf_some Y s k
      rw [hZ] at h
      injection h with h
      exact h.symm
    rw [hpo] at hput
    have Hput := Lib.hid hput
    have hdn0 := dropErr_ok HB.out.split HB.out.ne HB.out.way hk1
    have hdo : dropOf n s = Y := by unfold dropOf; rw [hYn]; rfl
    have Hdn := Lib.hid (And.intro hdn0 hdo)
    clear hk1 hYn hZ hYr hYw hdk hdn hpe hput hpo hdn0 hdo hk hto hrk
    go_wp2_with fail
    refine Hput.out.mono ?_
    rintro e3 w3 ⟨z, rfl, htz, hb3⟩
    have Hb3 := Lib.hid (below_on Hb2.out hb3)
    have Ht3 := Lib.hid (Ht2.out.below hb3)
    have Hty3 := Lib.hid (Hty2.out.below hb3)
    have Htz := Lib.hid htz.any
    have hdr2 := drop_ok Any d w3 p n s Ht3.out HB.out.fn.ris (by omega) hs Hdn.out.1
    rw [Hdn.out.2] at hdr2
    have Hdr2 := Lib.hid hdr2
    clear hb3 htz hdr2 Hput
    go_wp2_with fail
    refine Hdr2.out.mono ?_
    rintro e4 w4 ⟨u, rfl, htu, hb4⟩
    have Hb4 := Lib.hid (below_on Hb3.out hb4)
    have Ht4 := Lib.hid (Ht3.out.below hb4)
    have Hty4 := Lib.hid (Hty3.out.below hb4)
    have Htz4 := Lib.hid (Htz.out.below hb4)
    have Htu := Lib.hid htu.any
    have heq1 := equal_any Any Any _ d w4 z p n n Htz4.out Ht4.out (by omega) (by omega)
    rw [alike_refl] at heq1
    have Heq1 := Lib.hid heq1
    clear hb4 htu heq1 Hdr2
    go_wp2_with fail
    refine Heq1.out.mono ?_
    rintro e5 w5 ⟨rfl, hb5⟩
    have Hb5 := Lib.hid (below_on Hb4.out hb5)
    have heq2 := equal_any Any Any _ _ w5 u y Y Y (Htu.out.below hb5) (Hty4.out.below hb5) hYp hYp
    rw [alike_refl] at heq2
    have Heq2 := Lib.hid heq2
    clear hb5 heq2 Heq1
    go_wp2_with fail
    refine Heq2.out.mono ?_
    rintro e6 w6 ⟨rfl, hb6⟩
    have Hb6 := Lib.hid (below_on Hb5.out hb6)
    clear hb6
    go_wp2
    go_ret
    exact ⟨rfl, Hb6.out⟩
end Go.Proofs.Ythnbinlllmkabaa
