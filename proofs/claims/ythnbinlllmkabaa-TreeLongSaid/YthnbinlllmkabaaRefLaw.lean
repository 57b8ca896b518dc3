/- What the reference's put answers is what with answers: plain laws. -/
import Derived.Test.YthnbinlllmkabaaRefSet
import Derived.Test.YthnbinlllmkabaaPutL
namespace Go.Proofs.Ythnbinlllmkabaa
open Go.RowKit
set_option linter.unusedVariables false
set_option linter.unusedSimpArgs false

theorem kinded_kids {ks : List Nd} : kindedAll ks ↔ ∀ k ∈ ks, k.kinded := by
  induction ks with
  | nil => simp [kindedAll]
  | cons k ks ih => simp [kindedAll, ih]
theorem kidOr_some {n k : Nd} {t : ByteArray} (h : kidOf n.kids t = some k) : (kidOr n.kids t).named t = k := by
  unfold kidOr
  rw [h]
  show k.named t = k
  rw [← (kidOf_some h).2.1]
  exact named_self k
theorem kid_kinded {n k : Nd} {t : ByteArray} (hn : n.kinded) (h : kidOf n.kids t = some k) : k.kinded := by
  rw [kinded_eq] at hn
  exact kinded_kids.1 hn.2 k (List.mem_of_getElem? (kidOf_some h).1)
theorem fromR_some {ks : List Nd} {t : ByteArray} {k : Nd} (h : kidOf ks t = some k) : fromR ks t = place ks t + 1 := by
  unfold fromR; rw [(kidOf_some h).2.2]; rfl
theorem fromR_none {ks : List Nd} {t : ByteArray} (h : kidOf ks t = none) : fromR ks t = place ks t := by
  unfold fromR; rw [kidOf_none h]; rfl
theorem putR_some : ∀ (l : List ByteArray) (n s r : Nd), n.kinded → s.v.kind ≠ 0 → wayOf n l = true → withOf n l (some s) = some r → putR n l s = r.named n.name ∧ (putR n l s).v.kind ≠ 0
  | [], n, s, r, hk, hs, hw, h => by
    rw [withOf_nil] at h
    injection h with h
    subst h
    rw [putR_nil]
    exact ⟨rfl, hs⟩
  | t :: l, n, s, r, hk, hs, hw, h => by
    have hkind : n.v.kind ≠ 0 := by rw [kinded_eq] at hk; exact hk.1
    cases ho : kidOf n.kids t with
    | none =>
      obtain ⟨_, hl⟩ := wayOf_cons.1 hw
      have hl0 : l = [] := by
        rcases hl with h1 | ⟨k, h1, _⟩
        · exact h1
        · rw [ho] at h1; cases h1
      subst hl0
      rw [withOf_new [] s ho] at h
      injection h with h
      subst h
      rw [putR_cons, putR_nil, fromR_none ho]
      have h1 : oneR (s.named ((kidOr n.kids t).named t).name) = [s.named t] := by unfold oneR; rw [if_neg (show (s.named _).v.kind ≠ 0 from hs)]; rfl
      rw [h1]
      exact ⟨rfl, hkind⟩
    | some k =>
      have hwk : wayOf k l = true := by
        obtain ⟨_, hl⟩ := wayOf_cons.1 hw
        rcases hl with h1 | ⟨k', h1, h2⟩
        · rw [h1]; cases k; rfl
        · rw [ho] at h1; injection h1 with h1; rw [h1]; exact h2
      obtain ⟨r0, hr0⟩ := Option.isSome_iff_exists.1 (withOf_isSome l k s)
      obtain ⟨h1, h2⟩ := putR_some l k s r0 (kid_kinded hk ho) hs hwk hr0
      rw [withOf_put ho hr0] at h
      injection h with h
      subst h
      have hpl : place n.kids t < n.kids.length := (List.getElem?_eq_some_iff.1 (kidOf_some ho).1).1
      rw [putR_cons, kidOr_some ho, fromR_some ho]
      have h3 : oneR (putR k l s) = [r0.named t] := by unfold oneR; rw [if_neg h2, h1, (kidOf_some ho).2.1]
      rw [h3, List.set_eq_take_append_cons_drop, if_pos hpl]
      exact ⟨rfl, hkind⟩
theorem putR_none : ∀ (l : List ByteArray) (n r : Nd), l ≠ [] → n.kinded → (subOf n l).isSome = true → withOf n l none = some r → putR n l noNd = r ∧ (putR n l noNd).v.kind ≠ 0
  | [], n, r, h0, hk, hs, h => absurd rfl h0
  | t :: l, n, r, _, hk, hs, h => by
    have hkind : n.v.kind ≠ 0 := by rw [kinded_eq] at hk; exact hk.1
    rw [subOf_cons] at hs
    cases ho : kidOf n.kids t with
    | none => rw [ho] at hs; cases hs
    | some k =>
      rw [ho] at hs
      have hpl : place n.kids t < n.kids.length := (List.getElem?_eq_some_iff.1 (kidOf_some ho).1).1
      cases l with
      | nil =>
        rw [withOf_cut ho (withOf_nil k none)] at h
        injection h with h
        subst h
        rw [putR_cons, kidOr_some ho, fromR_some ho, putR_nil]
        have h3 : oneR (noNd.named k.name) = [] := by unfold oneR; rw [if_pos (show (noNd.named k.name).v.kind = 0 from rfl)]
        rw [h3, List.nil_append, ← List.eraseIdx_eq_take_drop_succ]
        exact ⟨rfl, hkind⟩
      | cons u l =>
        obtain ⟨r0, hr0⟩ := Option.isSome_iff_exists.1 (withOf_none (u :: l) k (by simp) hs)
        obtain ⟨h1, h2⟩ := putR_none (u :: l) k r0 (by simp) (kid_kinded hk ho) hs hr0
        rw [withOf_put ho hr0] at h
        injection h with h
        subst h
        rw [putR_cons, kidOr_some ho, fromR_some ho]
        have hnm : r0.name = t := by rw [← h1, putR_cons]; exact (kidOf_some ho).2.1
        have h3 : oneR (putR k (u :: l) noNd) = [r0.named t] := by unfold oneR; rw [if_neg h2, h1, ← hnm, named_self]
        rw [h3, List.set_eq_take_append_cons_drop, if_pos hpl]
        exact ⟨rfl, hkind⟩
theorem kidOr_kids {n : Nd} {t s : ByteArray} (h : ∀ k ∈ n.kids, k.kinded) : ∀ k ∈ ((kidOr n.kids t).named s).kids, k.kinded := by
  unfold kidOr
  cases ho : kidOf n.kids t with
  | none => intro k hk; exact absurd hk (by simp [noNd, Nd.named, Nd.kids])
  | some x =>
    have hx := h x (List.mem_of_getElem? (kidOf_some ho).1)
    rw [kinded_eq] at hx
    exact kinded_kids.1 hx.2
theorem putR_kids : ∀ (l : List ByteArray) (n s : Nd), (∀ k ∈ n.kids, k.kinded) → (∀ k ∈ s.kids, k.kinded) → ∀ k ∈ (putR n l s).kids, k.kinded
  | [], n, s, hn, hs => by rw [putR_nil]; exact hs
  | t :: l, n, s, hn, hs => by
    rw [putR_cons]
    intro k hk
    have hk' : k ∈ n.kids.take (place n.kids t) ++ (oneR (putR ((kidOr n.kids t).named t) l s) ++ n.kids.drop (fromR n.kids t)) := hk
    rw [List.mem_append, List.mem_append] at hk'
    rcases hk' with h | h | h
    · exact hn k (List.mem_of_mem_take h)
    · unfold oneR at h
      split at h
      · cases h
      · rename_i h0
        rw [List.mem_singleton] at h
        subst h
        rw [kinded_eq]
        exact ⟨h0, kinded_kids.2 (putR_kids l _ s (kidOr_kids hn) hs)⟩
    · exact hn k (List.mem_of_mem_drop h)
def lsum : List ByteArray → Nat | [] => 0 | x :: l => x.size + 1 + lsum l
theorem lsum_le (l : List ByteArray) (m : Nat) (h : ∀ x ∈ l, x.size ≤ m) : lsum l ≤ l.length * (m + 1) := by
  induction l with
  | nil => simp [lsum]
  | cons x l ih =>
    have h1 := h x (by simp)
    have h2 := ih (fun y hy => h y (by simp [hy]))
    simp only [lsum, List.length_cons, Nat.succ_mul]
    omega
theorem parts_oneR (r : Nd) : partsAll (oneR r) ≤ r.parts := by
  unfold oneR
  split
  · simp [partsAll]
  · simp [partsAll]
theorem parts_cut (ks : List Nd) (i : Nat) : partsAll (ks.take i) + partsAll (ks.drop i) = partsAll ks := by
  rw [← partsAll_append, List.take_append_drop]
theorem parts_cut1 {ks : List Nd} {i : Nat} {k : Nd} (h : ks[i]? = some k) : partsAll (ks.take i) + (k.parts + partsAll (ks.drop (i + 1))) = partsAll ks := by
  obtain ⟨h1, h2⟩ := List.getElem?_eq_some_iff.1 h
  have := parts_cut ks i
  rw [List.drop_eq_getElem_cons h1, h2] at this
  exact this
theorem putR_cons_parts (n s : Nd) (t : ByteArray) (l : List ByteArray) : (putR n (t :: l) s).parts ≤ 1 + n.name.size + (partsAll (n.kids.take (place n.kids t)) + ((putR ((kidOr n.kids t).named t) l s).parts + partsAll (n.kids.drop (fromR n.kids t)))) := by
  have h := parts_oneR (putR ((kidOr n.kids t).named t) l s)
  rw [putR_cons, parts_eq]
  show 1 + n.name.size + partsAll (_ ++ (_ ++ _)) ≤ _
  rw [partsAll_append, partsAll_append]
  omega
theorem putR_parts : ∀ (l : List ByteArray) (n s : Nd), (putR n l s).parts ≤ n.parts + s.parts + lsum l
  | [], n, s => by
    rw [putR_nil, parts_eq, parts_eq n, parts_eq s]
    show 1 + n.name.size + partsAll s.kids ≤ _
    omega
  | t :: l, n, s => by
    have h1 := putR_cons_parts n s t l
    have h2 := putR_parts l ((kidOr n.kids t).named t) s
    have h3 := parts_eq n
    show _ ≤ _ + (t.size + 1 + lsum l)
    cases ho : kidOf n.kids t with
    | none =>
      rw [fromR_none ho] at h1
      have h4 := parts_cut n.kids (place n.kids t)
      have h5 : ((kidOr n.kids t).named t).parts = 1 + t.size := by unfold kidOr; rw [ho]; rfl
      omega
    | some k =>
      rw [fromR_some ho, kidOr_some ho] at h1
      rw [kidOr_some ho] at h2
      have h4 := parts_cut1 (kidOf_some ho).1
      omega
theorem putR_sub_parts : ∀ (l : List ByteArray) (n s k : Nd), subOf n l = some k → (putR n l s).parts + k.parts ≤ n.parts + s.parts + k.name.size
  | [], n, s, k, h => by
    have : n = k := by cases n; injection h
    subst this
    rw [putR_nil, parts_eq, parts_eq n, parts_eq s]
    show 1 + n.name.size + partsAll s.kids + _ ≤ _
    omega
  | t :: l, n, s, k, h => by
    rw [subOf_cons, Option.bind_eq_some_iff] at h
    obtain ⟨x, ho, h⟩ := h
    have h1 := putR_cons_parts n s t l
    have h2 := putR_sub_parts l x s k h
    have h3 := parts_eq n
    rw [fromR_some ho, kidOr_some ho] at h1
    have h4 := parts_cut1 (kidOf_some ho).1
    omega
theorem pieces_lsum (p : ByteArray) : lsum (pieces p) ≤ (p.size + 1) * (p.size + 1) := by
  obtain ⟨h1, h2⟩ := pieces_size p
  exact Nat.le_trans (lsum_le _ _ h1) (Nat.mul_le_mul_right _ h2)
end Go.Proofs.Ythnbinlllmkabaa
