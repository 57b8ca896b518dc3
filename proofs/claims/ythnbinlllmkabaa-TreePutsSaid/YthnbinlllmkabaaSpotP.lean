/- Paths of a tree's things: plain laws. -/
import Derived.Test.YthnbinlllmkabaaPutL
import Derived.Test.YthnbinlllmkabaaAll
namespace Go.Proofs.Ythnbinlllmkabaa
open Go.RowKit
set_option linter.unusedVariables false
set_option linter.unusedSimpArgs false

mutual
/-- All names may be. -/
def Nd.oks : Nd → Prop | .mk _ _ _ ks => oksAll ks
def oksAll : List Nd → Prop | [] => True | k :: ks => okName k.name = true ∧ k.oks ∧ oksAll ks
end
theorem oks_eq (n : Nd) : n.oks = oksAll n.kids := by cases n; rfl
theorem oksAll_iff : ∀ ks : List Nd, oksAll ks ↔ ∀ k ∈ ks, okName k.name = true ∧ k.oks
  | [] => by simp [oksAll]
  | k :: ks => by simp [oksAll, oksAll_iff ks, and_assoc]
mutual
theorem fine_of : ∀ (n : Nd) (p : ByteArray) (lv : Nat), (chk n p lv).2 = 0 → lv ≤ 64 → n.ris ∧ n.oks ∧ n.dep + lv ≤ 64
  | .mk _ v m ks, p, lv, h, hlv => by
    rw [chk] at h
    by_cases ho : ownErr v m ks.length ≠ 0
    · rw [if_pos ho] at h; exact absurd h ho
    · rw [if_neg ho] at h
      obtain ⟨h1, h2, h3, h4, _⟩ := fine_ofKids ks none p lv h hlv
      exact ⟨⟨h1, h2⟩, h3, h4⟩
theorem fine_ofKids : ∀ (ks : List Nd) (prev : Option ByteArray) (p : ByteArray) (lv : Nat), (chkKids ks prev p lv).2 = 0 → lv ≤ 64 → Rising (ks.map Nd.name) ∧ risAll ks ∧ oksAll ks ∧ depAll ks + lv ≤ 64 ∧ (∀ q, prev = some q → ∀ k ∈ ks, blt q k.name = true)
  | [], _, _, _, _, hlv => ⟨List.Pairwise.nil, trivial, trivial, by simp [depAll]; exact hlv, fun _ _ k hk => by cases hk⟩
  | k :: ks, prev, p, lv, h, hlv => by
    rw [chkKids] at h
    by_cases h1 : lv = 64
    · rw [if_pos h1] at h; simp at h
    · rw [if_neg h1] at h
      by_cases h2 : nameErr k.name ≠ 0
      · rw [if_pos h2] at h; exact absurd h h2
      · rw [if_neg h2] at h
        by_cases h3 : rises prev k.name = false
        · rw [if_pos h3] at h; simp at h
        · rw [if_neg h3] at h
          by_cases h4 : (chk k (under p lv k.name) (lv + 1)).2 ≠ 0
          · rw [if_pos h4] at h; exact absurd h h4
          · rw [if_neg h4] at h
            obtain ⟨a1, a2, a3⟩ := fine_of k (under p lv k.name) (lv + 1) (Decidable.not_not.1 h4) (by omega)
            obtain ⟨b1, b2, b3, b4, b5⟩ := fine_ofKids ks _ p lv h hlv
            have hok : okName k.name = true := by
              cases hk : okName k.name with
              | true => rfl
              | false => exfalso; apply h2; unfold nameErr; rw [hk]; decide
            refine ⟨List.pairwise_cons.2 ⟨fun y hy => ?_, b1⟩, ⟨a1, b2⟩, ⟨hok, a2, b3⟩, by simp only [depAll]; omega, fun q hq x hx => ?_⟩
            · obtain ⟨x, hx, rfl⟩ := List.mem_map.1 hy
              exact b5 _ rfl x hx
            · subst hq
              have hqk : blt q k.name = true := by
                have : ¬ (Op.bytesLess q.toList k.name.toList = false) := h3
                unfold blt
                simpa using this
              rcases List.mem_cons.1 hx with rfl | hx
              · exact hqk
              · exact blt_trans hqk (b5 _ rfl x hx)
end
theorem okName_slash {s : ByteArray} (h : okName s = true) : 0 < s.size ∧ ∀ j (hj : j < s.size), (s[j]'hj).toNat ≠ 47 := by
  unfold okName at h
  simp only [Bool.and_eq_true, decide_eq_true_eq] at h
  refine ⟨h.1.1.1.1, fun j hj e => ?_⟩
  have h2 := h.2
  rw [List.all_eq_true] at h2
  have h3 := h2 _ (List.mem_of_getElem? (toList_get s j hj))
  unfold plainB at h3
  rw [e] at h3
  simp at h3
theorem pieces_name {s : ByteArray} (h : okName s = true) : pieces s = [s] := by
  obtain ⟨h0, h1⟩ := okName_slash h
  unfold pieces
  rw [if_neg (by omega), cutAt_skip s 0 0 s.size (by omega) (fun j hj _ => by have := h1 (0 + j) hj; exact this), Nat.zero_add, cutAt_end, ByteArray.extract_zero_size]
theorem cutAt_join (s x : ByteArray) (hx : ∀ j (hj : j < x.size), (x[j]'hj).toNat ≠ 47) : ∀ (k fr i : Nat), s.size - i = k → fr ≤ i → i ≤ s.size → cutAt (s ++ ⟨#[47]⟩ ++ x) fr i = cutAt s fr i ++ [x] := by
  have hS : (s ++ ⟨#[47]⟩ ++ x).size = s.size + 1 + x.size := by
    rw [ByteArray.size_append, ByteArray.size_append]
    rfl
  have hlo : ∀ i (h : i < s.size) (h' : i < (s ++ ⟨#[47]⟩ ++ x).size), (s ++ ⟨#[47]⟩ ++ x)[i]'h' = s[i]'h := fun i h h' => by
    rw [ByteArray.getElem_append_left (by rw [ByteArray.size_append]; omega), ByteArray.getElem_append_left h]
  have hmid : ∀ (h' : s.size < (s ++ ⟨#[47]⟩ ++ x).size), (s ++ ⟨#[47]⟩ ++ x)[s.size]'h' = 47 := fun h' => by
    have h1 : s.size < (s ++ ⟨#[47]⟩).size := by rw [ByteArray.size_append]; show s.size < s.size + 1; omega
    rw [ByteArray.getElem_append_left h1, ByteArray.getElem_append_right (Nat.le_refl _)]
    simp
    rfl
  have hhi : ∀ j (h : j < x.size) (h' : s.size + 1 + j < (s ++ ⟨#[47]⟩ ++ x).size), (s ++ ⟨#[47]⟩ ++ x)[s.size + 1 + j]'h' = x[j]'h := fun j h h' => by
    have h1 : (s ++ (⟨#[47]⟩ : ByteArray)).size = s.size + 1 := by rw [ByteArray.size_append]; rfl
    rw [ByteArray.getElem_append_right (by rw [h1]; omega)]
    simp only [h1]
    congr 1
    omega
  have hex : ∀ fr e, e ≤ s.size → (s ++ ⟨#[47]⟩ ++ x).extract fr e = s.extract fr e := fun fr e he => by
    rw [ByteArray.append_assoc, ByteArray.extract_append]
    rw [show e - s.size = 0 by omega]
    have : (⟨#[47]⟩ ++ x : ByteArray).extract (fr - s.size) 0 = ByteArray.empty := by
      rw [ByteArray.extract_eq_empty_iff]; omega
    rw [this, ByteArray.append_empty]
  intro k
  induction k with
  | zero =>
    intro fr i hk hf hi
    obtain rfl : i = s.size := by omega
    rw [cutAt_hit _ fr s.size (by omega) (by rw [hmid]; rfl), hex fr s.size (Nat.le_refl _), cutAt_end]
    have e1 : cutAt (s ++ ⟨#[47]⟩ ++ x) (s.size + 1) (s.size + 1) = [x] := by
      rw [cutAt_skip _ _ _ x.size (by omega) (fun j hj hd => by rw [hhi j hd]; exact hx j hd), show s.size + 1 + x.size = (s ++ ⟨#[47]⟩ ++ x).size by omega, cutAt_end]
      rw [ByteArray.extract_append_eq_right (by rw [ByteArray.size_append]; rfl) (by rw [hS, ByteArray.size_append]; rfl)]
    rw [e1]
    rfl
  | succ k ih =>
    intro fr i hk hf hi
    have hlt : i < s.size := by omega
    by_cases h47 : (s[i]'hlt).toNat = 47
    · rw [cutAt_hit _ fr i (by omega) (by rw [hlo i hlt]; exact h47), cutAt_hit s fr i hlt h47, hex fr i (by omega), ih (i + 1) (i + 1) (by omega) (by omega) (by omega)]
      rfl
    · rw [cutAt_miss _ fr i (by omega) (by rw [hlo i hlt]; exact h47), cutAt_miss s fr i hlt h47, ih fr (i + 1) (by omega) (by omega) (by omega)]
theorem pieces_path {p s : ByteArray} (h : okName s = true) : pieces (pathOf p s) = pieces p ++ [s] := by
  unfold pathOf
  split
  · rename_i hp
    subst hp
    rw [pieces_name h]
    rfl
  · rename_i hp
    have h0 : p.size ≠ 0 := fun e => hp (by cases p with | mk d => cases d with | mk l => cases l with | nil => rfl | cons x r => simp [ByteArray.size] at e)
    obtain ⟨_, h2⟩ := okName_slash h
    have e := cutAt_join p s h2 p.size 0 0 (by omega) (Nat.le_refl _) (Nat.zero_le _)
    unfold pieces
    rw [if_neg h0, if_neg (by rw [ByteArray.size_append, ByteArray.size_append]; omega), e]
theorem kidOf_get {ks : List Nd} (hr : Rising (ks.map Nd.name)) {k : Nd} (hk : k ∈ ks) : kidOf ks k.name = some k := (kidOf_iff hr).2 ⟨hk, rfl⟩
mutual
/-- What stands at each path. -/
theorem spots_of : ∀ (n : Nd) (p : ByteArray), n.ris → n.oks → ∀ x ∈ allOf n p, ∃ ms, pieces x.1 = pieces p ++ ms ∧ (∀ t ∈ ms, okName t = true) ∧ ms.length ≤ n.dep ∧ ∃ k, subOf n ms = some k ∧ k.v = x.2.1
  | .mk nm v m ks, p, hr, ho, x, hx => by
    rw [allOf_eq] at hx
    rcases List.mem_cons.1 hx with rfl | hx
    · exact ⟨[], by simp, by simp, Nat.zero_le _, _, rfl, rfl⟩
    · obtain ⟨k, ms, hk, h1, h2, h3, c, h4, h5⟩ := spots_ofKids ks p hr.2 ho x hx
      have hrk : Rising (ks.map Nd.name) := hr.1
      have hok : okName k.name = true := ((oksAll_iff ks).1 ho k hk).1
      refine ⟨k.name :: ms, h1, fun t ht => ?_, ?_, c, ?_, h5⟩
      · rcases List.mem_cons.1 ht with rfl | ht
        · exact hok
        · exact h2 t ht
      · have hd : k.dep + 1 ≤ depAll ks := by
          obtain ⟨i, hi, rfl⟩ := List.mem_iff_getElem.1 hk
          have h1 := depAll_take ks i hi
          have h2 := depAll_append (ks.take (i + 1)) (ks.drop (i + 1))
          rw [List.take_append_drop] at h2
          omega
        show ms.length + 1 ≤ depAll ks
        omega
      · rw [subOf_cons]
        show (kidOf ks k.name).bind _ = _
        rw [kidOf_get hrk hk]
        exact h4
theorem spots_ofKids : ∀ (ks : List Nd) (p : ByteArray), risAll ks → oksAll ks → ∀ x ∈ allKids ks p, ∃ k ms, k ∈ ks ∧ pieces x.1 = pieces p ++ (k.name :: ms) ∧ (∀ t ∈ ms, okName t = true) ∧ ms.length ≤ k.dep ∧ ∃ c, subOf k ms = some c ∧ c.v = x.2.1
  | [], p, _, _, x, hx => by simp [allKids] at hx
  | k :: ks, p, hr, ho, x, hx => by
    rw [allKids, List.mem_append] at hx
    rcases hx with hx | hx
    · obtain ⟨ms, h1, h2, h3, c, h4, h5⟩ := spots_of k (pathOf p k.name) hr.1 ho.2.1 x hx
      exact ⟨k, ms, by simp, by rw [h1, pieces_path ho.1]; simp, h2, h3, c, h4, h5⟩
    · obtain ⟨k', ms, h0, h1, h2, h3, c, h4, h5⟩ := spots_ofKids ks p hr.2 ho.2.2 x hx
      exact ⟨k', ms, by simp [h0], h1, h2, h3, c, h4, h5⟩
end
/-- A path of a tree: it may be, and something stands there. -/
theorem spot_at {n : Nd} (hr : n.ris) (ho : n.oks) (hd : n.dep ≤ 64) {x : ByteArray × Vl × (Mk × Mk)} (hx : x ∈ allOf n ⟨#[]⟩) : splitErr x.1 64 = 0 ∧ ∃ k, subOf n (pieces x.1) = some k ∧ k.v = x.2.1 := by
  obtain ⟨ms, h1, h2, h3, k, h4, h5⟩ := spots_of n ⟨#[]⟩ hr ho x hx
  have h1' : pieces x.1 = ms := by rw [h1]; rfl
  rw [h1']
  refine ⟨?_, k, h4, h5⟩
  unfold splitErr
  rw [h1', if_neg (by omega), if_pos (by rw [List.all_eq_true]; exact h2)]
theorem kidsWith_oks {ks : List Nd} (hr : Rising (ks.map Nd.name)) {t : ByteArray} {o : Option Nd} (h : oksAll ks) (ht : okName t = true) (ho : ∀ x, o = some x → x.oks) : oksAll (kidsWith ks t o) := by
  rw [oksAll_iff]
  intro k hk
  rcases kidsWith_mem hr hk with ⟨x, hx, rfl⟩ | hk
  · refine ⟨ht, ?_⟩
    have := ho x hx
    rw [oks_eq] at this ⊢
    exact this
  · exact (oksAll_iff ks).1 h k hk
theorem withOf_oks : ∀ (l : List ByteArray) (n : Nd) (s : Option Nd) (r : Nd), n.ris → n.oks → (∀ x, s = some x → x.oks) → (∀ t ∈ l, okName t = true) → withOf n l s = some r → r.oks
  | [], n, s, r, _, _, hs, _, h => by rw [withOf_nil] at h; exact hs r h
  | t :: l, n, s, r, hn, ho, hs, ht, h => by
    have hcase : kidOf n.kids t = none → s.isSome = true := fun hk => by
      cases s with
      | none => rw [withOf, hk] at h; cases h
      | some x => rfl
    rw [withOf_cons hcase] at h
    injection h with h
    subst h
    rw [oks_eq] at ho ⊢
    refine kidsWith_oks (ris_kids hn) ho (ht t (by simp)) fun x hx => ?_
    split at hx
    · exact hs x hx
    · rename_i k hk
      have hkk := ((oksAll_iff _).1 ho k (List.mem_of_getElem? (kidOf_some hk).1)).2
      exact withOf_oks l k s x (kidOf_ris hn hk) hkk hs (fun u hu => ht u (by simp [hu])) hx
theorem depAll_le_iff (d : Nat) : ∀ ks : List Nd, depAll ks ≤ d ↔ ∀ k ∈ ks, k.dep + 1 ≤ d
  | [] => by simp [depAll]
  | k :: ks => by simp only [depAll, List.mem_cons, forall_eq_or_imp, ← depAll_le_iff d ks]; omega
theorem withOf_dep : ∀ (l : List ByteArray) (n : Nd) (s : Option Nd) (r : Nd) (D : Nat), n.ris → n.dep ≤ D → (∀ x, s = some x → l.length + x.dep ≤ D) → withOf n l s = some r → r.dep ≤ D
  | [], n, s, r, D, _, _, hs, h => by rw [withOf_nil] at h; have := hs r h; simpa using this
  | t :: l, n, s, r, D, hn, hd, hs, h => by
    have hcase : kidOf n.kids t = none → s.isSome = true := fun hk => by
      cases s with
      | none => rw [withOf, hk] at h; cases h
      | some x => rfl
    rw [withOf_cons hcase] at h
    injection h with h
    subst h
    rw [dep_eq] at hd ⊢
    rw [depAll_le_iff] at hd
    refine (depAll_le_iff D _).2 fun c hc => ?_
    rcases kidsWith_mem (ris_kids hn) hc with ⟨x, hx, rfl⟩ | hc
    · rw [named_dep]
      split at hx
      · have := hs x hx
        simp only [List.length_cons] at this
        omega
      · rename_i k hk
        have hkd := hd k (List.mem_of_getElem? (kidOf_some hk).1)
        obtain ⟨D', rfl⟩ : ∃ D', D = D' + 1 := ⟨D - 1, by omega⟩
        have := withOf_dep l k s x D' (kidOf_ris hn hk) (by omega) (fun y hy => by have := hs y hy; simp only [List.length_cons] at this; omega) hx
        omega
    · exact hd c hc
/-- How many parts a tree with another subtree comes to at most. -/
def sizes (l : List ByteArray) : Nat := (l.map ByteArray.size).sum
theorem partsAll_with {ks : List Nd} {t : ByteArray} {o : Option Nd} : partsAll (kidsWith ks t o) ≤ partsAll ks + (match o with | none => 0 | some x => x.parts + t.size) := by
  have hnm : ∀ x : Nd, (x.named t).parts ≤ x.parts + t.size := fun x => by rw [parts_eq, parts_eq x]; show 1 + t.size + partsAll x.kids ≤ _; omega
  unfold kidsWith
  cases hk : kidOf ks t with
  | none =>
    cases o with
    | none => simp
    | some x =>
      have h := partsAll_append (ks.take (place ks t)) (ks.drop (place ks t))
      rw [List.take_append_drop] at h
      have := hnm x
      simp only [partsAll_append, partsAll]
      omega
  | some k =>
    have h := partsAll_append (ks.take (place ks t)) (ks.drop (place ks t))
    rw [List.take_append_drop] at h
    have hlt := (List.getElem?_eq_some_iff.1 (kidOf_some hk).1).1
    have hd : partsAll (ks.drop (place ks t)) = (ks[place ks t]).parts + partsAll (ks.drop (place ks t + 1)) := by rw [List.drop_eq_getElem_cons hlt, partsAll]
    cases o with
    | none =>
      simp only [List.eraseIdx_eq_take_drop_succ, partsAll_append]
      omega
    | some x =>
      have := hnm x
      simp only [List.set_eq_take_append_cons_drop, hlt, if_true, partsAll_append, partsAll]
      omega
end Go.Proofs.Ythnbinlllmkabaa
