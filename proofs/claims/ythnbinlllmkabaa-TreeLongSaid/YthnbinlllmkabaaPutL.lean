/- What a Put lays down, and all else: plain laws. -/
import Derived.Test.YthnbinlllmkabaaPutP
namespace Go.Proofs.Ythnbinlllmkabaa
open Go.RowKit
set_option linter.unusedVariables false
set_option linter.unusedSimpArgs false

theorem named_self (n : Nd) : n.named n.name = n := by cases n; rfl
theorem named_named (n : Nd) (s t : ByteArray) : (n.named s).named t = n.named t := rfl
theorem named_ris (n : Nd) (t : ByteArray) : (n.named t).ris ↔ n.ris := by rw [ris_eq, ris_eq n]; rfl
theorem subOf_cons (n : Nd) (t : ByteArray) (l : List ByteArray) : subOf n (t :: l) = (kidOf n.kids t).bind fun k => subOf k l := rfl
theorem subOf_named (n : Nd) (s : ByteArray) : ∀ l : List ByteArray, l ≠ [] → subOf (n.named s) l = subOf n l
  | [], h => absurd rfl h
  | t :: l, _ => rfl
theorem subOf_named_v (n : Nd) (s : ByteArray) : ∀ l : List ByteArray, (subOf (n.named s) l).map Nd.v = (subOf n l).map Nd.v
  | [] => rfl
  | t :: l => rfl
theorem wayOf_cons {n : Nd} {t : ByteArray} {l : List ByteArray} : wayOf n (t :: l) = true ↔ n.v.kind = 1 ∧ (l = [] ∨ ∃ k, kidOf n.kids t = some k ∧ wayOf k l = true) := by
  cases l with
  | nil => rw [wayOf_one]; simp
  | cons u l =>
    rw [wayOf_two]
    cases hk : kidOf n.kids t with
    | none => simp
    | some k => simp
theorem wayOf_named (n : Nd) (s : ByteArray) : ∀ l : List ByteArray, wayOf (n.named s) l = wayOf n l
  | [] => rfl
  | [t] => rfl
  | t :: u :: l => rfl
theorem withOf_named (n : Nd) (s : ByteArray) (o : Option Nd) : ∀ l : List ByteArray, l ≠ [] → withOf (n.named s) l o = (withOf n l o).map fun r => r.named s
  | [], h => absurd rfl h
  | t :: l, _ => by
    cases hk : kidOf n.kids t with
    | none =>
      cases o with
      | none => rw [withOf, withOf, show kidOf (n.named s).kids t = none from hk, hk]; rfl
      | some x => rw [withOf_new (n := n.named s) l x hk, withOf_new l x hk]; rfl
    | some k =>
      cases hw : withOf k l o with
      | none => rw [withOf_cut (n := n.named s) hk hw, withOf_cut hk hw]; rfl
      | some r => rw [withOf_put (n := n.named s) hk hw, withOf_put hk hw]; rfl
theorem kidsWith_same {ks : List Nd} (hr : Rising (ks.map Nd.name)) {t : ByteArray} {k : Nd} (h : kidOf ks t = some k) : kidsWith ks t (some k) = ks := by
  refine kids_ext (kidsWith_ris hr t _) hr fun u => ?_
  rw [kidOf_with hr]
  split
  · rename_i hu
    subst hu
    rw [h, Option.map_some, ← (kidOf_some h).2.1, named_self]
  · rfl
theorem kidsWith_none {ks : List Nd} {t : ByteArray} (h : kidOf ks t = none) : kidsWith ks t none = ks := by unfold kidsWith; rw [h]
theorem kidsWith_with {ks : List Nd} (hr : Rising (ks.map Nd.name)) (t : ByteArray) (a b : Option Nd) : kidsWith (kidsWith ks t a) t b = kidsWith ks t b := by
  have h1 := kidsWith_ris hr t a
  refine kids_ext (kidsWith_ris h1 t b) (kidsWith_ris hr t b) fun u => ?_
  rw [kidOf_with h1, kidOf_with hr, kidOf_with hr]
  split <;> rfl
theorem kidsWith_comm {ks : List Nd} (hr : Rising (ks.map Nd.name)) {t u : ByteArray} (h : t ≠ u) (a b : Option Nd) : kidsWith (kidsWith ks t a) u b = kidsWith (kidsWith ks u b) t a := by
  have h1 := kidsWith_ris hr t a
  have h2 := kidsWith_ris hr u b
  refine kids_ext (kidsWith_ris h1 u b) (kidsWith_ris h2 t a) fun v => ?_
  rw [kidOf_with h1, kidOf_with hr, kidOf_with h2, kidOf_with hr]
  by_cases hv : v = u
  · subst hv; rw [if_pos rfl, if_neg (Ne.symm h), if_pos rfl]
  · rw [if_neg hv, if_neg hv]
theorem kidsWith_name {ks : List Nd} (hr : Rising (ks.map Nd.name)) (t s : ByteArray) (o : Option Nd) : kidsWith ks t (o.map fun x => x.named s) = kidsWith ks t o := by
  refine kids_ext (kidsWith_ris hr t _) (kidsWith_ris hr t o) fun u => ?_
  rw [kidOf_with hr, kidOf_with hr]
  split
  · cases o <;> rfl
  · rfl
theorem kidsWith_mem {ks : List Nd} (hr : Rising (ks.map Nd.name)) {t : ByteArray} {o : Option Nd} {k : Nd} (h : k ∈ kidsWith ks t o) : (∃ x, o = some x ∧ k = x.named t) ∨ k ∈ ks := by
  have h1 := (kidOf_iff (kidsWith_ris hr t o)).2 ⟨h, rfl⟩
  rw [kidOf_with hr] at h1
  split at h1
  · cases o with
    | none => cases h1
    | some x => injection h1 with h1; exact .inl ⟨x, rfl, h1.symm⟩
  · exact .inr ((kidOf_iff hr).1 h1).1
theorem ris_kids {n : Nd} (h : n.ris) : Rising (n.kids.map Nd.name) := by rw [ris_eq] at h; exact h.1
theorem withOf_ris : ∀ (l : List ByteArray) (n : Nd) (s : Option Nd) (r : Nd), n.ris → (∀ x, s = some x → x.ris) → withOf n l s = some r → r.ris
  | [], n, s, r, hn, hs, h => by rw [withOf_nil] at h; exact hs r h
  | t :: l, n, s, r, hn, hs, h => by
    have hcase : kidOf n.kids t = none → s.isSome = true := fun hk => by
      cases s with
      | none => rw [withOf, hk] at h; cases h
      | some x => rfl
    rw [withOf_cons hcase] at h
    injection h with h
    subst h
    have hk := ris_kids hn
    rw [ris_eq]
    refine ⟨kidsWith_ris hk t _, (risAll_iff _).2 fun k hm => ?_⟩
    rcases kidsWith_mem hk hm with ⟨x, hx, rfl⟩ | hm
    · rw [named_ris]
      split at hx
      · exact hs x hx
      · rename_i k hkk
        exact withOf_ris l k s x (kidOf_ris hn hkk) hs hx
    · rw [ris_eq] at hn
      exact (risAll_iff _).1 hn.2 k hm
/-- What was put stands there. -/
theorem sub_put : ∀ (l : List ByteArray) (n x r : Nd), n.ris → wayOf n l = true → withOf n l (some x) = some r → ∃ nm, subOf r l = some (x.named nm)
  | [], n, x, r, _, _, h => by
    rw [withOf_nil] at h
    injection h with h
    subst h
    exact ⟨x.name, by rw [named_self]; rfl⟩
  | t :: l, n, x, r, hn, hw, h => by
    rw [withOf_cons (fun _ => rfl)] at h
    injection h with h
    subst h
    rw [subOf_cons]
    show ∃ nm, (kidOf (kidsWith n.kids t _) t).bind _ = _
    rw [kidOf_with (ris_kids hn), if_pos rfl]
    obtain ⟨_, hl | ⟨k, hk, hwk⟩⟩ := wayOf_cons.1 hw
    · subst hl
      cases hk : kidOf n.kids t with
      | none => exact ⟨t, rfl⟩
      | some k => simp only [withOf_nil]; exact ⟨t, rfl⟩
    · rw [hk]
      by_cases hl : l = []
      · subst hl
        simp only [withOf_nil]
        exact ⟨t, rfl⟩
      · obtain ⟨r', hr'⟩ := Option.isSome_iff_exists.1 (withOf_isSome l k x)
        obtain ⟨nm, hs⟩ := sub_put l k x r' (kidOf_ris hn hk) hwk hr'
        refine ⟨nm, ?_⟩
        simp only [hr', Option.map_some, Option.bind_some]
        rw [subOf_named _ _ l hl]
        exact hs
theorem withOf_single {n : Nd} {t : ByteArray} {s : Option Nd} (h : kidOf n.kids t = none → s.isSome = true) : withOf n [t] s = some (.mk n.name n.v n.m (kidsWith n.kids t s)) := by
  rw [withOf_cons h]
  cases hk : kidOf n.kids t with
  | none => rfl
  | some k => simp only [withOf_nil]
theorem withOf_defined {l : List ByteArray} {n : Nd} {s : Option Nd} (hl : l ≠ []) (h : s.isSome = true ∨ (subOf n l).isSome = true) : (withOf n l s).isSome = true := by
  rcases h with h | h
  · obtain ⟨x, rfl⟩ := Option.isSome_iff_exists.1 h
    exact withOf_isSome l n x
  · cases s with
    | none => exact withOf_none l n hl h
    | some x => exact withOf_isSome l n x
/-- All else is as it was. -/
theorem sub_other : ∀ (l m : List ByteArray) (n r : Nd) (s : Option Nd), n.ris → wayOf n l = true → (s.isSome = true ∨ (subOf n l).isSome = true) → withOf n l s = some r → ¬ l <+: m → (subOf r m).map Nd.v = (subOf n m).map Nd.v
  | [], m, n, r, s, _, _, _, _, hp => absurd (List.nil_prefix) hp
  | t :: l, [], n, r, s, hn, hw, hd, h, hp => by
    have hcase : kidOf n.kids t = none → s.isSome = true := fun hk => by
      rcases hd with hd | hd
      · exact hd
      · rw [subOf_cons, hk] at hd; cases hd
    rw [withOf_cons hcase] at h
    injection h with h
    subst h
    rfl
  | t :: l, u :: m, n, r, s, hn, hw, hd, h, hp => by
    have hcase : kidOf n.kids t = none → s.isSome = true := fun hk => by
      rcases hd with hd | hd
      · exact hd
      · rw [subOf_cons, hk] at hd; cases hd
    rw [withOf_cons hcase] at h
    injection h with h
    subst h
    rw [subOf_cons, subOf_cons]
    show ((kidOf (kidsWith n.kids t _) u).bind _).map _ = _
    rw [kidOf_with (ris_kids hn)]
    by_cases hu : u = t
    · subst hu
      rw [if_pos rfl]
      have hp' : ¬ l <+: m := fun h => hp (by rw [List.cons_prefix_cons]; exact ⟨rfl, h⟩)
      obtain ⟨_, hl | ⟨k, hk, hwk⟩⟩ := wayOf_cons.1 hw
      · subst hl; exact absurd (List.nil_prefix) hp'
      · rw [hk]
        have hl : l ≠ [] := fun e => hp' (by rw [e]; exact List.nil_prefix)
        have hd' : s.isSome = true ∨ (subOf k l).isSome = true := by
          rcases hd with hd | hd
          · exact .inl hd
          · rw [subOf_cons, hk] at hd; exact .inr hd
        obtain ⟨r', hr'⟩ := Option.isSome_iff_exists.1 (withOf_defined hl hd')
        simp only [hr', Option.map_some, Option.bind_some]
        rw [subOf_named_v]
        exact sub_other l m k r' s (kidOf_ris hn hk) hwk hd' hr' hp'
    · rw [if_neg hu]
/-- What stands there, put there again. -/
theorem put_same : ∀ (l : List ByteArray) (n k : Nd), n.ris → subOf n l = some k → withOf n l (some k) = some n
  | [], n, k, _, h => by rw [withOf_nil]; exact h.symm
  | t :: l, n, k, hn, h => by
    rw [subOf_cons] at h
    cases hk : kidOf n.kids t with
    | none => rw [hk] at h; cases h
    | some c =>
      rw [hk, Option.bind_some] at h
      rw [withOf_cons (fun _ => rfl), hk]
      simp only [put_same l c k (kidOf_ris hn hk) h]
      rw [kidsWith_same (ris_kids hn) hk]
      cases n
      rfl
/-- Another thing put where one was put already. -/
theorem put_again : ∀ (l : List ByteArray) (n r : Nd) (a b : Option Nd), l ≠ [] → n.ris → wayOf n l = true → (a.isSome = true ∨ (subOf n l).isSome = true) → (b.isSome = true ∨ (a.isSome = true ∧ (subOf n l).isSome = true)) → withOf n l a = some r → withOf r l b = withOf n l b
  | [], _, _, _, _, h, _, _, _, _, _ => absurd rfl h
  | t :: l, n, r, a, b, _, hn, hw, ha, hb, h => by
    have hcase : kidOf n.kids t = none → a.isSome = true := fun hk => by
      rcases ha with ha | ha
      · exact ha
      · rw [subOf_cons, hk] at ha; cases ha
    have hcaseb : kidOf n.kids t = none → b.isSome = true := fun hk => by
      rcases hb with hb | ⟨_, hb⟩
      · exact hb
      · rw [subOf_cons, hk] at hb; cases hb
    have hr := ris_kids hn
    obtain ⟨_, hw'⟩ := wayOf_cons.1 hw
    by_cases hl : l = []
    · subst hl
      rw [withOf_single hcase] at h
      injection h with h
      subst h
      have hc2 : kidOf (kidsWith n.kids t a) t = none → b.isSome = true := by
        rw [kidOf_with hr, if_pos rfl]
        intro hk
        rcases hb with hb | ⟨hb, _⟩
        · exact hb
        · obtain ⟨x, rfl⟩ := Option.isSome_iff_exists.1 hb; cases hk
      rw [withOf_single (n := .mk n.name n.v n.m (kidsWith n.kids t a)) hc2, withOf_single hcaseb]
      show some (Nd.mk n.name n.v n.m (kidsWith (kidsWith n.kids t a) t b)) = _
      rw [kidsWith_with hr]
    · rw [withOf_cons hcase] at h
      injection h with h
      subst h
      rcases hw' with hw' | ⟨k, hk, hwk⟩
      · exact absurd hw' hl
      · have ha' : a.isSome = true ∨ (subOf k l).isSome = true := by
          rcases ha with ha | ha
          · exact .inl ha
          · rw [subOf_cons, hk] at ha; exact .inr ha
        have hb' : b.isSome = true ∨ (a.isSome = true ∧ (subOf k l).isSome = true) := by
          rcases hb with hb | ⟨hb, hc⟩
          · exact .inl hb
          · rw [subOf_cons, hk] at hc; exact .inr ⟨hb, hc⟩
        obtain ⟨r', hr'⟩ := Option.isSome_iff_exists.1 (withOf_defined (s := a) hl ha')
        rw [hk]
        simp only [hr']
        have hkr : kidOf (kidsWith n.kids t (some r')) t = some (r'.named t) := by rw [kidOf_with hr, if_pos rfl]; rfl
        rw [withOf_cons (n := .mk n.name n.v n.m (kidsWith n.kids t (some r'))) (fun h => by rw [show kidOf (Nd.mk n.name n.v n.m (kidsWith n.kids t (some r'))).kids t = _ from hkr] at h; cases h), withOf_cons hcaseb, hk]
        show some (Nd.mk n.name n.v n.m (kidsWith (kidsWith n.kids t (some r')) t (match kidOf (kidsWith n.kids t (some r')) t with | none => b | some k => withOf k l b))) = _
        rw [hkr]
        simp only []
        rw [kidsWith_with hr, withOf_named _ _ _ l hl, put_again l k r' a b hl (kidOf_ris hn hk) hwk ha' hb' hr', kidsWith_name hr]
/-- Dropped where nothing stood. -/
theorem drop_new : ∀ (l : List ByteArray) (n x r : Nd), l ≠ [] → n.ris → wayOf n l = true → subOf n l = none → withOf n l (some x) = some r → withOf r l none = some n
  | [], _, _, _, h, _, _, _, _ => absurd rfl h
  | t :: l, n, x, r, _, hn, hw, hs, h => by
    rw [withOf_cons (fun _ => rfl)] at h
    injection h with h
    subst h
    have hr := ris_kids hn
    obtain ⟨_, hw'⟩ := wayOf_cons.1 hw
    by_cases hl : l = []
    · subst hl
      have hk : kidOf n.kids t = none := by
        rw [subOf_cons] at hs
        cases hk : kidOf n.kids t with
        | none => rfl
        | some k => rw [hk] at hs; cases hs
      rw [hk]
      simp only []
      have hkr : kidOf (kidsWith n.kids t (some x)) t = some (x.named t) := by rw [kidOf_with hr, if_pos rfl]; rfl
      rw [withOf_cons (n := .mk n.name n.v n.m (kidsWith n.kids t (some x))) (fun h => by rw [show kidOf (Nd.mk n.name n.v n.m (kidsWith n.kids t (some x))).kids t = _ from hkr] at h; cases h)]
      show some (Nd.mk n.name n.v n.m (kidsWith (kidsWith n.kids t (some x)) t (match kidOf (kidsWith n.kids t (some x)) t with | none => none | some k => withOf k [] none))) = _
      rw [hkr]
      simp only [withOf_nil]
      rw [kidsWith_with hr, kidsWith_none hk]
      cases n
      rfl
    · rcases hw' with hw' | ⟨k, hk, hwk⟩
      · exact absurd hw' hl
      · obtain ⟨r', hr'⟩ := Option.isSome_iff_exists.1 (withOf_isSome l k x)
        have hsk : subOf k l = none := by rw [subOf_cons, hk] at hs; exact hs
        rw [hk]
        simp only [hr']
        have hkr : kidOf (kidsWith n.kids t (some r')) t = some (r'.named t) := by rw [kidOf_with hr, if_pos rfl]; rfl
        rw [withOf_cons (n := .mk n.name n.v n.m (kidsWith n.kids t (some r'))) (fun h => by rw [show kidOf (Nd.mk n.name n.v n.m (kidsWith n.kids t (some r'))).kids t = _ from hkr] at h; cases h)]
        show some (Nd.mk n.name n.v n.m (kidsWith (kidsWith n.kids t (some r')) t (match kidOf (kidsWith n.kids t (some r')) t with | none => none | some k => withOf k l none))) = _
        rw [hkr]
        simp only []
        rw [kidsWith_with hr, withOf_named _ _ _ l hl, drop_new l k x r' hl (kidOf_ris hn hk) hwk hsk hr', kidsWith_name hr, kidsWith_same hr hk]
        cases n
        rfl
/-- The way is there still. -/
theorem way_put : ∀ (l : List ByteArray) (n r : Nd) (s : Option Nd), l ≠ [] → n.ris → wayOf n l = true → (s.isSome = true ∨ (subOf n l).isSome = true) → withOf n l s = some r → wayOf r l = true
  | [], _, _, _, h, _, _, _, _ => absurd rfl h
  | t :: l, n, r, s, _, hn, hw, hd, h => by
    have hcase : kidOf n.kids t = none → s.isSome = true := fun hk => by
      rcases hd with hd | hd
      · exact hd
      · rw [subOf_cons, hk] at hd; cases hd
    rw [withOf_cons hcase] at h
    injection h with h
    subst h
    obtain ⟨hv, hw'⟩ := wayOf_cons.1 hw
    refine wayOf_cons.2 ⟨hv, ?_⟩
    by_cases hl : l = []
    · exact .inl hl
    · rcases hw' with hw' | ⟨k, hk, hwk⟩
      · exact absurd hw' hl
      · right
        have hd' : s.isSome = true ∨ (subOf k l).isSome = true := by
          rcases hd with hd | hd
          · exact .inl hd
          · rw [subOf_cons, hk] at hd; exact .inr hd
        obtain ⟨r', hr'⟩ := Option.isSome_iff_exists.1 (withOf_defined (s := s) hl hd')
        refine ⟨r'.named t, ?_, ?_⟩
        · rw [hk]
          simp only [hr']
          show kidOf (kidsWith n.kids t (some r')) t = _
          rw [kidOf_with (ris_kids hn), if_pos rfl]
          rfl
        · rw [wayOf_named]
          exact way_put l k r' s hl (kidOf_ris hn hk) hwk hd' hr'
/-- Two Puts apart from one another. -/
theorem put_comm : ∀ (l m : List ByteArray) (n a b r1 r2 : Nd), n.ris → wayOf n l = true → wayOf n m = true → ¬ l <+: m → ¬ m <+: l → withOf n l (some a) = some r1 → withOf n m (some b) = some r2 →
    withOf r1 m (some b) = withOf r2 l (some a) ∧ wayOf r2 l = true
  | [], m, _, _, _, _, _, _, _, _, hp, _, _, _ => absurd (List.nil_prefix) hp
  | t :: l, [], _, _, _, _, _, _, _, _, _, hp, _, _ => absurd (List.nil_prefix) hp
  | t :: l, u :: m, n, a, b, r1, r2, hn, hw1, hw2, hp, hq, h1, h2 => by
    rw [withOf_cons (fun _ => rfl)] at h1 h2
    injection h1 with h1
    injection h2 with h2
    subst h1 h2
    have hr := ris_kids hn
    obtain ⟨hv, hw1'⟩ := wayOf_cons.1 hw1
    obtain ⟨_, hw2'⟩ := wayOf_cons.1 hw2
    by_cases hu : t = u
    · subst hu
      have hp' : ¬ l <+: m := fun h => hp (by rw [List.cons_prefix_cons]; exact ⟨rfl, h⟩)
      have hq' : ¬ m <+: l := fun h => hq (by rw [List.cons_prefix_cons]; exact ⟨rfl, h⟩)
      have hl : l ≠ [] := fun e => hp' (by rw [e]; exact List.nil_prefix)
      have hm : m ≠ [] := fun e => hq' (by rw [e]; exact List.nil_prefix)
      rcases hw1' with e | ⟨k, hk, hwk1⟩
      · exact absurd e hl
      rcases hw2' with e | ⟨k2, hk2, hwk2⟩
      · exact absurd e hm
      rw [hk] at hk2
      injection hk2 with hk2
      subst hk2
      obtain ⟨k1, hk1⟩ := Option.isSome_iff_exists.1 (withOf_isSome l k a)
      obtain ⟨k2, hk2⟩ := Option.isSome_iff_exists.1 (withOf_isSome m k b)
      obtain ⟨hc, hw⟩ := put_comm l m k a b k1 k2 (kidOf_ris hn hk) hwk1 hwk2 hp' hq' hk1 hk2
      rw [hk]
      simp only [hk1, hk2]
      have hkr : ∀ c : Nd, kidOf (kidsWith n.kids t (some c)) t = some (c.named t) := fun c => by rw [kidOf_with hr, if_pos rfl]; rfl
      constructor
      · rw [withOf_cons (n := .mk n.name n.v n.m (kidsWith n.kids t (some k1))) (fun _ => rfl), withOf_cons (n := .mk n.name n.v n.m (kidsWith n.kids t (some k2))) (fun _ => rfl)]
        show some (Nd.mk n.name n.v n.m (kidsWith (kidsWith n.kids t (some k1)) t (match kidOf (kidsWith n.kids t (some k1)) t with | none => some b | some k => withOf k m (some b)))) = some (Nd.mk n.name n.v n.m (kidsWith (kidsWith n.kids t (some k2)) t (match kidOf (kidsWith n.kids t (some k2)) t with | none => some a | some k => withOf k l (some a))))
        rw [hkr, hkr]
        simp only []
        rw [kidsWith_with hr, kidsWith_with hr, withOf_named _ _ _ m hm, withOf_named _ _ _ l hl, kidsWith_name hr, kidsWith_name hr, hc]
      · exact wayOf_cons.2 ⟨hv, .inr ⟨k2.named t, hkr k2, by rw [wayOf_named]; exact hw⟩⟩
    · have ht : ∀ o, kidOf (kidsWith n.kids t o) u = kidOf n.kids u := fun o => by rw [kidOf_with hr, if_neg (Ne.symm hu)]
      have hu' : ∀ o, kidOf (kidsWith n.kids u o) t = kidOf n.kids t := fun o => by rw [kidOf_with hr, if_neg hu]
      constructor
      · rw [withOf_cons (n := .mk n.name n.v n.m (kidsWith n.kids t _)) (fun _ => rfl), withOf_cons (n := .mk n.name n.v n.m (kidsWith n.kids u _)) (fun _ => rfl)]
        show some (Nd.mk n.name n.v n.m (kidsWith (kidsWith n.kids t _) u (match kidOf (kidsWith n.kids t _) u with | none => some b | some k => withOf k m (some b)))) = some (Nd.mk n.name n.v n.m (kidsWith (kidsWith n.kids u _) t (match kidOf (kidsWith n.kids u _) t with | none => some a | some k => withOf k l (some a))))
        rw [ht, hu', kidsWith_comm hr hu]
        rfl
      · refine wayOf_cons.2 ⟨hv, ?_⟩
        rcases hw1' with e | ⟨k, hk, hwk⟩
        · exact .inl e
        · exact .inr ⟨k, by show kidOf (kidsWith n.kids u _) t = _; rw [hu']; exact hk, hwk⟩
theorem subOf_dep : ∀ (l : List ByteArray) (n k : Nd), subOf n l = some k → l.length + k.dep ≤ n.dep
  | [], n, k, h => by injection h with h; subst h; simp
  | t :: l, n, k, h => by
    rw [subOf_cons] at h
    cases hk : kidOf n.kids t with
    | none => rw [hk] at h; cases h
    | some c =>
      rw [hk, Option.bind_some] at h
      have ih := subOf_dep l c k h
      obtain ⟨hi, hcc⟩ := List.getElem?_eq_some_iff.1 (kidOf_some hk).1
      have h1 := depAll_take n.kids _ hi
      have h2 := depAll_append (n.kids.take (place n.kids t + 1)) (n.kids.drop (place n.kids t + 1))
      rw [List.take_append_drop] at h2
      rw [hcc] at h1
      have := dep_eq n
      simp only [List.length_cons]
      omega
end Go.Proofs.Ythnbinlllmkabaa
