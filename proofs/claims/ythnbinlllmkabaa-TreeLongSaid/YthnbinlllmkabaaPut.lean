/- A tree's Put and Drop. -/
import Derived.Test.YthnbinlllmkabaaWith2
namespace Go.Proofs.Ythnbinlllmkabaa
open Go.RowKit
set_option linter.unusedVariables false
set_option linter.unusedSimpArgs false

theorem withOf_isSome : ∀ (l : List ByteArray) (n x : Nd), (withOf n l (some x)).isSome = true
  | [], n, x => by rw [withOf_nil]; rfl
  | t :: l, n, x => by
    cases hk : kidOf n.kids t with
    | none => rw [withOf_new l x hk]; rfl
    | some k =>
      cases hw : withOf k l (some x) with
      | none => rw [withOf_cut hk hw]; rfl
      | some r => rw [withOf_put hk hw]; rfl
/-- The tree with another subtree at a path. -/
def putOf (n : Nd) (s : ByteArray) (x : Nd) : Nd := (withOf n (pieces s) (some x)).getD n
theorem putOf_some (n : Nd) (s : ByteArray) (x : Nd) : withOf n (pieces s) (some x) = some (putOf n s x) := by
  obtain ⟨r, hr⟩ := Option.isSome_iff_exists.1 (withOf_isSome (pieces s) n x)
  unfold putOf
  rw [hr]
  rfl
def putErr (n : Nd) (s : ByteArray) (x : Nd) : Int := if splitErr s 64 ≠ 0 then splitErr s 64 else if wayOf n (pieces s) = false then 44 else if 64 < (pieces s).length + x.dep then 43 else 0
theorem strs_sizes {s : ByteArray} (hs : s.size ≤ 1000000000) : ∀ x ∈ pieces s, x.size ≤ 9223372036854775807 := fun x hx => by have := (pieces_size s).1 x hx; omega
theorem splitErr_31 {s : ByteArray} {m : Nat} (h : splitErr s m ≠ 0) : splitErr s m = 31 ∨ splitErr s m = 30 := by
  rcases splitErr_bad h with ⟨_, h⟩ | ⟨_, h, _⟩
  · exact .inl h
  · exact .inr h
theorem putErr_ne {n : Nd} {s : ByteArray} {x : Nd} : putErr n s x = 0 ↔ splitErr s 64 = 0 ∧ wayOf n (pieces s) = true ∧ (pieces s).length + x.dep ≤ 64 := by
  unfold putErr
  by_cases h1 : splitErr s 64 = 0
  · rw [if_neg (by simp [h1])]
    cases h2 : wayOf n (pieces s) with
    | false => simp
    | true =>
      rw [if_neg (by simp)]
      by_cases h3 : 64 < (pieces s).length + x.dep
      · rw [if_pos h3]; simp; omega
      · rw [if_neg h3]; simp [h1]; omega
  · rw [if_pos h1]; simp [h1]
set_option maxHeartbeats 4000000 in
set_option maxRecDepth 100000 in
theorem put_ok (F : Nat → Prop) (d e : Nat) (w : World) (p q : Nat) (n x : Nd) (s : ByteArray) (ht : TreeAt w F d p n) (hx : TreeAt w F e q x) (hr : n.ris) (hc : n.cnt + x.cnt ≤ 1000000000) (hs : s.size ≤ 1000000000) (h0 : putErr n s x = 0) :
    Calls Try.prog 35 #[.pointer (some ⟨p, 0, none⟩), .string s, .pointer (some ⟨q, 0, none⟩)] w fun e' w' => ∃ p', e' = .returned (.tuple #[.pointer (some ⟨p', 0, none⟩), .int .i64 0]) ∧ TreeAt w' (fun b => F b ∨ w.heap.size ≤ b) (d + e) p' (putOf n s x) ∧ Below w.heap.size w w' := by
  obtain ⟨h1, h2, h3⟩ := putErr_ne.1 h0
  have H := Lib.hid (split_ok w s 64 (by omega) hs h1)
  have H2 := Lib.hid h2
  have H3 := Lib.hid h3
  have Ht := Lib.hid (And.intro ht (And.intro hx hr))
  have Hls := Lib.hid (strs_sizes hs)
  clear ht hx hr h0 h1 h2 h3
  go_enter Try.func35, Try.ntmps35
  go_wp2_with fail
  refine H.out.mono ?_
  rintro e1 w1 ⟨nl, a, c, rfl, hnl, hown, hb1, hfr⟩
  have Hown := Lib.hid hown
  have Hnl := Lib.hid hnl
  have Hb1 := Lib.hid hb1
  have hnc := hown.cap_le
  have hl63 := hown.2.1
  have hn64 : nl ≤ 64 := by have := (splitErr_zero (m := 64) (s := s)); have h3 := H3.out; omega
  have hw1 : w.heap.size ≤ w1.heap.size := hb1.size
  have Hway := Lib.hid (way_any F d w1 p n (pieces s) a nl c hown.sl hnl hnc (Ht.out.1.below hb1) Ht.out.2.2 (by omega) (by omega))
  rw [H2.out] at Hway
  clear hown hnl hb1 hfr H
  go_wp2_with fail
  refine Hway.out.mono ?_
  rintro e2 w2 ⟨rfl, hb2⟩
  have Hb2 := Lib.hid (below_on Hb1.out hb2)
  have Hown2 := Lib.hid (Hown.out.kept (Upd.below hb2 fun _ => False) (fun _ _ => id))
  obtain ⟨dx, hdx⟩ : ∃ dx, dx = x.dep := ⟨_, rfl⟩
  have f42 := (Ht.out.2.1.below Hb2.out).cell.2
  rw [← hdx] at f42
  have hd64 : nl + dx ≤ 64 := by have h3 := H3.out; rw [← hdx, Hnl.out] at h3; exact h3
  have z1 : IntKind.i64.wrap ((nl : Int) + (dx : Int)) = (nl : Int) + (dx : Int) := IntWalk.i64_in _ (by omega)
  have z2 : ¬ ((64 : Int) < (nl : Int) + (dx : Int)) := by omega
  have z3 : decide ((64 : Int) < (nl : Int) + (dx : Int)) = false := decide_eq_false z2
  have hl63' := Hown2.out.2.1
  have hcc : c ≤ 9223372036854775807 := by
    rcases Hown2.out.2.2 with ⟨hv, _⟩ | ⟨g, off, cap, cur, hv, hg, hnc, hcm, _⟩
    · injection hv with _ _ h; omega
    · injection hv with _ _ h; omega
  have Hwith := Lib.hid (with_ok d F w2 p n (pieces s) a nl c (some (q, x)) e (Ht.out.1.below Hb2.out) Ht.out.2.2 Hown2.out.sl Hnl.out hnc hcc Hls.out (fun q' x' h => by injection h with h; injection h with h1 h2; subst h1 h2; exact Ht.out.2.1.below Hb2.out) (fun h => by cases h) hc)
  have had : adO (some (q, x)) = .pointer (some ⟨q, 0, none⟩) := rfl
  rw [had, show Option.map Prod.snd (some (q, x)) = some x from rfl, putOf_some] at Hwith
  have hw2 : w.heap.size ≤ w2.heap.size := Hb2.out.size
  clear hb2 hdx Hway
  go_wp2_with fail
  refine Hwith.out.mono ?_
  rintro e3 w3 ⟨hcase, hb3⟩
  rcases hcase with ⟨h, _⟩ | ⟨r, p', hr, rfl, ht3⟩
  · cases h
  · injection hr with hr
    subst hr
    have H4 := Lib.hid (And.intro ht3 (below_on Hb2.out hb3))
    clear ht3 hb3 Hwith
    go_wp2
    go_ret2
    exact ⟨p', rfl, TreeAt.mono (fun b hb _ => by rcases hb with h | h; exact .inl h; exact .inr (by omega)) _ _ _ H4.out.1, H4.out.2⟩
set_option maxHeartbeats 4000000 in
set_option maxRecDepth 100000 in
theorem put_bad (F : Nat → Prop) (d e : Nat) (w : World) (p q : Nat) (n x : Nd) (s : ByteArray) (ht : TreeAt w F d p n) (hx : TreeAt w F e q x) (hr : n.ris) (hc : n.cnt ≤ 1000000000) (hcx : x.cnt ≤ 1000000000) (hs : s.size ≤ 1000000000) (h0 : putErr n s x ≠ 0) :
    Calls Try.prog 35 #[.pointer (some ⟨p, 0, none⟩), .string s, .pointer (some ⟨q, 0, none⟩)] w fun e' w' => e' = .returned (.tuple #[.pointer none, .int .i64 (putErr n s x)]) ∧ Below w.heap.size w w' := by
  by_cases h1 : splitErr s 64 = 0
  · have H := Lib.hid (split_ok w s 64 (by omega) hs h1)
    have Ht := Lib.hid (And.intro ht (And.intro hx hr))
    have hl64 := (splitErr_zero h1).1
    cases h2 : wayOf n (pieces s) with
    | false =>
      have He : Hid (putErr n s x = 44) := by show _ = _; unfold putErr; rw [if_neg (by simp [h1]), if_pos h2]
      have H2 := Lib.hid h2
      have H64 := Lib.hid hl64
      clear ht hx hr h0 h1 h2 hl64
      go_enter Try.func35, Try.ntmps35
      go_wp2_with fail
      refine H.out.mono ?_
      rintro e1 w1 ⟨nl, a, c, rfl, hnl, hown, hb1, hfr⟩
      have hn64 : nl ≤ 64 := by have := H64.out; omega
      have Hb1 := Lib.hid hb1
      have Hway := Lib.hid (way_any F d w1 p n (pieces s) a nl c hown.sl hnl hown.cap_le (Ht.out.1.below hb1) Ht.out.2.2 (by omega) (by omega))
      rw [H2.out] at Hway
      clear hown hnl hb1 hfr H
      go_wp2_with fail
      refine Hway.out.mono ?_
      rintro e2 w2 ⟨rfl, hb2⟩
      have Hb2 := Lib.hid (below_on Hb1.out hb2)
      clear hb2
      go_wp2
      go_ret2
      exact ⟨by rw [He.out]; rfl, Hb2.out⟩
    | true =>
      have h3 : 64 < (pieces s).length + x.dep := by
        refine Decidable.byContradiction fun h => h0 (putErr_ne.2 ⟨h1, h2, by omega⟩)
      have He : Hid (putErr n s x = 43) := by show _ = _; unfold putErr; rw [if_neg (by simp [h1]), if_neg (by simp [h2]), if_pos h3]
      have H2 := Lib.hid h2
      have H3 := Lib.hid h3
      have H64 := Lib.hid hl64
      clear ht hx hr h0 h1 h2 hl64 h3
      go_enter Try.func35, Try.ntmps35
      go_wp2_with fail
      refine H.out.mono ?_
      rintro e1 w1 ⟨nl, a, c, rfl, hnl, hown, hb1, hfr⟩
      have hn64 : nl ≤ 64 := by have := H64.out; omega
      have Hnl := Lib.hid hnl
      have Hb1 := Lib.hid hb1
      have Hway := Lib.hid (way_any F d w1 p n (pieces s) a nl c hown.sl hnl hown.cap_le (Ht.out.1.below hb1) Ht.out.2.2 (by omega) (by omega))
      rw [H2.out] at Hway
      clear hown hnl hb1 hfr H
      go_wp2_with fail
      refine Hway.out.mono ?_
      rintro e2 w2 ⟨rfl, hb2⟩
      have Hb2 := Lib.hid (below_on Hb1.out hb2)
      obtain ⟨dx, hdx⟩ : ∃ dx, dx = x.dep := ⟨_, rfl⟩
      have f42 := (Ht.out.2.1.below Hb2.out).cell.2
      rw [← hdx] at f42
      have hdl : dx ≤ 1000000000 := by rw [hdx]; have := dep_le_cnt x; omega
      have hd64 : 64 < nl + dx := by have h3 := H3.out; rw [← hdx, Hnl.out] at h3; exact h3
      have z1 : IntKind.i64.wrap ((nl : Int) + (dx : Int)) = (nl : Int) + (dx : Int) := IntWalk.i64_in _ (by omega)
      have z2 : (64 : Int) < (nl : Int) + (dx : Int) := by omega
      have z3 : decide ((64 : Int) < (nl : Int) + (dx : Int)) = true := decide_eq_true z2
      clear hb2 hdx
      go_wp2
      go_ret2
      exact ⟨by rw [He.out]; rfl, Hb2.out⟩
  · have He : Hid (putErr n s x = splitErr s 64) := by show _ = _; unfold putErr; rw [if_pos h1]
    have H := Lib.hid (split_bad w s 64 (by omega) hs h1)
    obtain ⟨z, hz⟩ : ∃ z, z = splitErr s 64 := ⟨_, rfl⟩
    rw [← hz] at H h1
    have hz0 : (z != 0) = true := by rw [bne_iff_ne]; exact h1
    have Hz := Lib.hid hz
    clear hz h1 ht hx hr h0
    go_enter Try.func35, Try.ntmps35
    go_wp2_with fail
    refine H.out.mono ?_
    rintro e1 w1 ⟨rfl, hb1⟩
    have Hb1 := Lib.hid hb1
    clear hb1 H
    go_wp2
    go_ret2
    exact ⟨by rw [He.out, ← Hz.out]; rfl, Hb1.out⟩
/-- The error of a Drop. -/
def dropErr (n : Nd) (s : ByteArray) : Int := if splitErr s 64 ≠ 0 then splitErr s 64 else if pieces s = [] then 46 else if wayOf n (pieces s) = false then 44 else if subOf n (pieces s) = none then 45 else 0
/-- The tree without what stands at a path. -/
def dropOf (n : Nd) (s : ByteArray) : Nd := (withOf n (pieces s) none).getD n
theorem withOf_none : ∀ (l : List ByteArray) (n : Nd), l ≠ [] → (subOf n l).isSome = true → (withOf n l none).isSome = true
  | [], n, h, _ => absurd rfl h
  | t :: l, n, _, h => by
    cases hk : kidOf n.kids t with
    | none => rw [subOf, hk] at h; cases h
    | some k =>
      cases hw : withOf k l none with
      | none => rw [withOf_cut hk hw]; rfl
      | some r => rw [withOf_put hk hw]; rfl
theorem dropErr_zero {n : Nd} {s : ByteArray} (h : dropErr n s = 0) : splitErr s 64 = 0 ∧ pieces s ≠ [] ∧ wayOf n (pieces s) = true ∧ (subOf n (pieces s)).isSome = true ∧ withOf n (pieces s) none = some (dropOf n s) := by
  unfold dropErr at h
  split at h
  · rename_i h1; exact absurd h h1
  · rename_i h1
    split at h
    · cases h
    · rename_i h2
      split at h
      · cases h
      · rename_i h3
        split at h
        · cases h
        · rename_i h4
          have h5 : (subOf n (pieces s)).isSome = true := Option.isSome_iff_ne_none.2 h4
          refine ⟨Decidable.not_not.1 h1, h2, by simpa using h3, h5, ?_⟩
          obtain ⟨r, hr⟩ := Option.isSome_iff_exists.1 (withOf_none (pieces s) n h2 h5)
          unfold dropOf
          rw [hr]
          rfl
set_option maxHeartbeats 4000000 in
set_option maxRecDepth 100000 in
theorem drop_ok (F : Nat → Prop) (d : Nat) (w : World) (p : Nat) (n : Nd) (s : ByteArray) (ht : TreeAt w F d p n) (hr : n.ris) (hc : n.cnt ≤ 1000000000) (hs : s.size ≤ 1000000000) (h0 : dropErr n s = 0) :
    Calls Try.prog 39 #[.pointer (some ⟨p, 0, none⟩), .string s] w fun e' w' => ∃ p', e' = .returned (.tuple #[.pointer (some ⟨p', 0, none⟩), .int .i64 0]) ∧ TreeAt w' (fun b => F b ∨ w.heap.size ≤ b) d p' (dropOf n s) ∧ Below w.heap.size w w' := by
  obtain ⟨h1, h2, h3, h4, h5⟩ := dropErr_zero h0
  have H := Lib.hid (split_ok w s 64 (by omega) hs h1)
  have hl64 := (splitErr_zero h1).1
  have hl0 : 0 < (pieces s).length := List.length_pos_iff.2 h2
  have H3 := Lib.hid (And.intro h3 (And.intro h4 h5))
  have H1 := Lib.hid h1
  have H64 := Lib.hid (And.intro hl64 hl0)
  have Ht := Lib.hid (And.intro ht hr)
  have Hls := Lib.hid (strs_sizes hs)
  clear ht hr h0 h1 h2 h3 h4 h5 hl64 hl0
  go_enter Try.func39, Try.ntmps39
  go_wp2_with fail
  refine H.out.mono ?_
  rintro e1 w1 ⟨nl, a, c, rfl, hnl, hown, hb1, hfr⟩
  have Hown := Lib.hid hown
  have Hnl := Lib.hid hnl
  have Hb1 := Lib.hid hb1
  have hnc := hown.cap_le
  have hn64 : nl ≤ 64 ∧ 0 < nl := by have := H64.out; omega
  have n0 : ¬ ((nl : Int) = 0) := by omega
  have hw1 : w.heap.size ≤ w1.heap.size := hb1.size
  have Hway := Lib.hid (way_any F d w1 p n (pieces s) a nl c hown.sl hnl hnc (Ht.out.1.below hb1) Ht.out.2 (by omega) (by omega))
  rw [H3.out.1] at Hway
  clear hown hnl hb1 hfr H
  go_wp2_with fail
  refine Hway.out.mono ?_
  rintro e2 w2 ⟨rfl, hb2⟩
  have Hb2 := Lib.hid (below_on Hb1.out hb2)
  have Hown2 := Lib.hid (Hown.out.kept (Upd.below hb2 fun _ => False) (fun _ _ => id))
  have Hsub := Lib.hid (sub_any F d w2 p n s (Ht.out.1.below Hb2.out) Ht.out.2 hc hs H1.out)
  clear hb2 Hway
  go_wp2_with fail
  refine Hsub.out.mono ?_
  rintro e3 w3 ⟨hcase, hb3⟩
  rcases hcase with ⟨h, _⟩ | ⟨k, q, hk, rfl, _⟩
  · have := H3.out.2.1
    rw [h] at this
    cases this
  have Hb3 := Lib.hid (below_on Hb2.out hb3)
  have Hown3 := Lib.hid (Hown2.out.kept (Upd.below hb3 fun _ => False) (fun _ _ => id))
  have hcc : c ≤ 9223372036854775807 := by
    rcases Hown2.out.2.2 with ⟨hv, _⟩ | ⟨g, off, cap, cur, hv, hg, hnc, hcm, _⟩
    · injection hv with _ _ h; omega
    · injection hv with _ _ h; omega
  have Hwith := Lib.hid (with_ok d F w3 p n (pieces s) a nl c none 0 (Ht.out.1.below Hb3.out) Ht.out.2 Hown3.out.sl Hnl.out hnc hcc Hls.out (fun q' x' h => by cases h) (fun _ => H3.out.2.1) (by show n.cnt + 0 ≤ _; exact hc))
  have had : adO none = .pointer none := rfl
  rw [had, show Option.map Prod.snd (none : Option (Nat × Nd)) = none from rfl, H3.out.2.2] at Hwith
  have hw3 : w.heap.size ≤ w3.heap.size := Hb3.out.size
  clear hb3 hk Hsub
  go_wp2_with fail
  refine Hwith.out.mono ?_
  rintro e4 w4 ⟨hcase, hb4⟩
  rcases hcase with ⟨h, _⟩ | ⟨r, p', hr, rfl, ht4⟩
  · cases h
  · injection hr with hr
    subst hr
    have H4 := Lib.hid (And.intro ht4 (below_on Hb3.out hb4))
    clear ht4 hb4 Hwith
    go_wp2
    go_ret2
    exact ⟨p', rfl, TreeAt.mono (fun b hb _ => by rcases hb with h | h; exact .inl h; exact .inr (by omega)) _ _ _ H4.out.1, H4.out.2⟩
set_option maxHeartbeats 4000000 in
set_option maxRecDepth 100000 in
theorem drop_bad (F : Nat → Prop) (d : Nat) (w : World) (p : Nat) (n : Nd) (s : ByteArray) (ht : TreeAt w F d p n) (hr : n.ris) (hc : n.cnt ≤ 1000000000) (hs : s.size ≤ 1000000000) (h0 : dropErr n s ≠ 0) :
    Calls Try.prog 39 #[.pointer (some ⟨p, 0, none⟩), .string s] w fun e' w' => e' = .returned (.tuple #[.pointer none, .int .i64 (dropErr n s)]) ∧ Below w.heap.size w w' := by
  by_cases h1 : splitErr s 64 = 0
  · have H := Lib.hid (split_ok w s 64 (by omega) hs h1)
    have H1 := Lib.hid h1
    have Ht := Lib.hid (And.intro ht hr)
    have hl64 := (splitErr_zero h1).1
    have H64 := Lib.hid hl64
    by_cases h2 : pieces s = []
    · have He : Hid (dropErr n s = 46) := by show _ = _; unfold dropErr; rw [if_neg (by simp [h1]), if_pos h2]
      have H2 := Lib.hid h2
      clear ht hr h0 h1 h2 hl64
      go_enter Try.func39, Try.ntmps39
      go_wp2_with fail
      refine H.out.mono ?_
      rintro e1 w1 ⟨nl, a, c, rfl, hnl, hown, hb1, hfr⟩
      obtain rfl : nl = 0 := by rw [← hnl, H2.out]; rfl
      have Hb1 := Lib.hid hb1
      clear hown hnl hb1 hfr H
      go_wp2
      go_ret2
      exact ⟨by rw [He.out]; rfl, Hb1.out⟩
    · have hl0 : 0 < (pieces s).length := List.length_pos_iff.2 h2
      have Hl0 := Lib.hid hl0
      cases h3 : wayOf n (pieces s) with
      | false =>
        have He : Hid (dropErr n s = 44) := by show _ = _; unfold dropErr; rw [if_neg (by simp [h1]), if_neg h2, if_pos h3]
        have H3 := Lib.hid h3
        clear ht hr h0 h1 h2 hl64 h3 hl0
        go_enter Try.func39, Try.ntmps39
        go_wp2_with fail
        refine H.out.mono ?_
        rintro e1 w1 ⟨nl, a, c, rfl, hnl, hown, hb1, hfr⟩
        have hn64 : nl ≤ 64 ∧ 0 < nl := by have := H64.out; have := Hl0.out; omega
        have n0 : ¬ ((nl : Int) = 0) := by omega
        have Hb1 := Lib.hid hb1
        have Hway := Lib.hid (way_any F d w1 p n (pieces s) a nl c hown.sl hnl hown.cap_le (Ht.out.1.below hb1) Ht.out.2 (by omega) (by omega))
        rw [H3.out] at Hway
        clear hown hnl hb1 hfr H
        go_wp2_with fail
        refine Hway.out.mono ?_
        rintro e2 w2 ⟨rfl, hb2⟩
        have Hb2 := Lib.hid (below_on Hb1.out hb2)
        clear hb2
        go_wp2
        go_ret2
        exact ⟨by rw [He.out]; rfl, Hb2.out⟩
      | true =>
        have h4 : subOf n (pieces s) = none := by
          refine Decidable.byContradiction fun h => h0 ?_
          unfold dropErr; rw [if_neg (by simp [h1]), if_neg h2, if_neg (by simp [h3]), if_neg h]
        have He : Hid (dropErr n s = 45) := by show _ = _; unfold dropErr; rw [if_neg (by simp [h1]), if_neg h2, if_neg (by simp [h3]), if_pos h4]
        have H3 := Lib.hid (And.intro h3 h4)
        clear ht hr h0 h1 h2 hl64 h3 hl0 h4
        go_enter Try.func39, Try.ntmps39
        go_wp2_with fail
        refine H.out.mono ?_
        rintro e1 w1 ⟨nl, a, c, rfl, hnl, hown, hb1, hfr⟩
        have hn64 : nl ≤ 64 ∧ 0 < nl := by have := H64.out; have := Hl0.out; omega
        have n0 : ¬ ((nl : Int) = 0) := by omega
        have Hb1 := Lib.hid hb1
        have Hway := Lib.hid (way_any F d w1 p n (pieces s) a nl c hown.sl hnl hown.cap_le (Ht.out.1.below hb1) Ht.out.2 (by omega) (by omega))
        rw [H3.out.1] at Hway
        clear hown hnl hb1 hfr H
        go_wp2_with fail
        refine Hway.out.mono ?_
        rintro e2 w2 ⟨rfl, hb2⟩
        have Hb2 := Lib.hid (below_on Hb1.out hb2)
        have Hsub := Lib.hid (sub_any F d w2 p n s (Ht.out.1.below Hb2.out) Ht.out.2 hc hs H1.out)
        clear hb2 Hway
        go_wp2_with fail
        refine Hsub.out.mono ?_
        rintro e3 w3 ⟨hcase, hb3⟩
        rcases hcase with ⟨_, rfl⟩ | ⟨k, q, hk, _⟩
        · have Hb3 := Lib.hid (below_on Hb2.out hb3)
          clear hb3 Hsub
          go_wp2
          go_ret2
          exact ⟨by rw [He.out]; rfl, Hb3.out⟩
        · rw [H3.out.2] at hk
          cases hk
  · have He : Hid (dropErr n s = splitErr s 64) := by show _ = _; unfold dropErr; rw [if_pos h1]
    have H := Lib.hid (split_bad w s 64 (by omega) hs h1)
    obtain ⟨z, hz⟩ : ∃ z, z = splitErr s 64 := ⟨_, rfl⟩
    rw [← hz] at H h1
    have hz0 : (z != 0) = true := by rw [bne_iff_ne]; exact h1
    have Hz := Lib.hid hz
    clear hz h1 ht hr h0
    go_enter Try.func39, Try.ntmps39
    go_wp2_with fail
    refine H.out.mono ?_
    rintro e1 w1 ⟨rfl, hb1⟩
    have Hb1 := Lib.hid hb1
    clear hb1 H
    go_wp2
    go_ret2
    exact ⟨by rw [He.out, ← Hz.out]; rfl, Hb1.out⟩
end Go.Proofs.Ythnbinlllmkabaa
