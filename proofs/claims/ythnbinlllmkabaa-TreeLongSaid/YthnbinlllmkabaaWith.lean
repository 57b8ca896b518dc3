/- A tree's with: another subtree behind names. -/
import Derived.Test.YthnbinlllmkabaaKids
import Derived.Test.YthnbinlllmkabaaSlc
namespace Go.Proofs.Ythnbinlllmkabaa
open Go.RowKit
set_option linter.unusedVariables false
set_option linter.unusedSimpArgs false

/-- The tree in which another subtree stands behind these names. -/
def withOf : Nd → List ByteArray → Option Nd → Option Nd
  | _, [], s => s
  | n, t :: l, s => match kidOf n.kids t with
    | none => s.map fun x => .mk n.name n.v n.m (n.kids.take (place n.kids t) ++ x.named t :: n.kids.drop (place n.kids t))
    | some k => match withOf k l s with
      | some r => some (.mk n.name n.v n.m (n.kids.set (place n.kids t) (r.named t)))
      | none => some (.mk n.name n.v n.m (n.kids.eraseIdx (place n.kids t)))
theorem withOf_nil (n : Nd) (s : Option Nd) : withOf n [] s = s := by cases n; rfl
theorem withOf_new {n : Nd} {t : ByteArray} (l : List ByteArray) (x : Nd) (h : kidOf n.kids t = none) : withOf n (t :: l) (some x) = some (.mk n.name n.v n.m (n.kids.take (place n.kids t) ++ x.named t :: n.kids.drop (place n.kids t))) := by rw [withOf, h]; rfl
theorem withOf_put {n k r : Nd} {t : ByteArray} {l : List ByteArray} {s : Option Nd} (h : kidOf n.kids t = some k) (h2 : withOf k l s = some r) : withOf n (t :: l) s = some (.mk n.name n.v n.m (n.kids.set (place n.kids t) (r.named t))) := by rw [withOf, h]; simp only [h2]
theorem withOf_cut {n k : Nd} {t : ByteArray} {l : List ByteArray} {s : Option Nd} (h : kidOf n.kids t = some k) (h2 : withOf k l s = none) : withOf n (t :: l) s = some (.mk n.name n.v n.m (n.kids.eraseIdx (place n.kids t))) := by rw [withOf, h]; simp only [h2]
theorem named_cnt (n : Nd) (t : ByteArray) : (n.named t).cnt = n.cnt := by rw [cnt_eq, cnt_eq n]; rfl
theorem named_dep (n : Nd) (t : ByteArray) : (n.named t).dep = n.dep := by rw [dep_eq, dep_eq n]; rfl
theorem named_kids (n : Nd) (t : ByteArray) : (n.named t).kids = n.kids := rfl
theorem named_name (n : Nd) (t : ByteArray) : (n.named t).name = t := rfl
theorem cntAll_set : ∀ (ks : List Nd) (i : Nat) (k r : Nd), ks[i]? = some k → cntAll (ks.set i r) + k.cnt = cntAll ks + r.cnt
  | [], i, k, r, h => by simp at h
  | x :: ks, 0, k, r, h => by simp at h; subst h; simp only [List.set_cons_zero, cntAll]; omega
  | x :: ks, i + 1, k, r, h => by have := cntAll_set ks i k r (by simpa using h); simp only [List.set_cons_succ, cntAll]; omega
theorem cntAll_erase : ∀ (ks : List Nd) (i : Nat) (k : Nd), ks[i]? = some k → cntAll (ks.eraseIdx i) + k.cnt = cntAll ks
  | [], i, k, h => by simp at h
  | x :: ks, 0, k, h => by simp at h; subst h; simp only [List.eraseIdx_cons_zero, cntAll]; omega
  | x :: ks, i + 1, k, h => by have := cntAll_erase ks i k (by simpa using h); simp only [List.eraseIdx_cons_succ, cntAll]; omega
theorem cntAll_ins (ks : List Nd) (i : Nat) (r : Nd) : cntAll (ks.take i ++ r :: ks.drop i) = cntAll ks + r.cnt := by
  have h := cntAll_append (ks.take i) (ks.drop i)
  rw [List.take_append_drop] at h
  rw [cntAll_append]
  simp only [cntAll]
  omega
def cntO (s : Option Nd) : Nat := (s.map Nd.cnt).getD 0
theorem withOf_cnt : ∀ (l : List ByteArray) (n : Nd) (s : Option Nd) (r : Nd), withOf n l s = some r → r.cnt ≤ n.cnt + cntO s
  | [], n, s, r, h => by
    rw [withOf_nil] at h
    subst h
    show r.cnt ≤ n.cnt + r.cnt
    omega
  | t :: l, n, s, r, h => by
    cases hk : kidOf n.kids t with
    | none =>
      cases s with
      | none => rw [withOf, hk] at h; cases h
      | some x =>
        rw [withOf_new l x hk] at h
        injection h with h
        subst h
        rw [cnt_eq, cnt_eq n]
        show 1 + cntAll _ ≤ _
        simp only [Nd.kids]
        rw [cntAll_ins, named_cnt]
        show _ ≤ _ + x.cnt
        cases n
        simp only [Nd.kids]
        omega
    | some k =>
      have hki := (kidOf_some hk).1
      cases hw : withOf k l s with
      | none =>
        rw [withOf_cut hk hw] at h
        injection h with h
        subst h
        rw [cnt_eq, cnt_eq n]
        have := cntAll_erase _ _ _ hki
        show 1 + cntAll (n.kids.eraseIdx _) ≤ _
        omega
      | some r' =>
        rw [withOf_put hk hw] at h
        injection h with h
        subst h
        have ih := withOf_cnt l k s r' hw
        rw [cnt_eq, cnt_eq n]
        have := cntAll_set _ _ _ (r'.named t) hki
        rw [named_cnt] at this
        show 1 + cntAll (n.kids.set _ _) ≤ _
        omega
theorem TreeAt.renamed {F : Nat → Prop} {w : World} {d p : Nat} {n : Nd} (h : TreeAt w F d p n) (t : ByteArray) : TreeAt w F d p (n.named t) := by
  cases d with
  | zero => exact h.elim
  | succ d =>
    obtain ⟨h1, h2, h3, an, ak, cn, ck, ps, h4, h5, h6, h7, h8, h9, h10, h11, h12⟩ := h
    refine ⟨h1, h2, h3, an, ak, cn, ck, ps, ?_, h5, h6, h7, h8, h9, h10, h11, h12⟩
    rw [named_cnt, named_dep]
    exact h4
theorem ptrs_one (l : List Nat) : ∀ u ∈ ptrs l, u.oneCell' = true := by
  intro u hu
  simp only [ptrs, List.mem_map] at hu
  obtain ⟨x, _, rfl⟩ := hu
  rfl
/-- The trees of a list, at some addresses. -/
theorem TreesAt.set {w : World} {F : Nat → Prop} {d : Nat} {ps : List Nat} {ks : List Nd} (h : TreesAt w F d ps ks) (i q : Nat) (r : Nd) (hr : TreeAt w F d q r) (hn : r.name.size ≤ 9223372036854775807) : TreesAt w F d (ps.set i q) (ks.set i r) := by
  refine ⟨by simp [h.1], fun j q' k' hq hk => ?_⟩
  rw [List.getElem?_set] at hq hk
  by_cases hij : i = j
  · subst hij
    rw [if_pos rfl] at hq hk
    split at hq
    · injection hq with hq
      rename_i hl
      rw [if_pos (by rw [← h.1]; exact hl)] at hk
      injection hk with hk
      subst hq hk
      exact ⟨hn, hr⟩
    · cases hq
  · rw [if_neg hij] at hq hk
    exact h.2 j q' k' hq hk
theorem TreesAt.erase {w : World} {F : Nat → Prop} {d : Nat} {ps : List Nat} {ks : List Nd} (h : TreesAt w F d ps ks) (i : Nat) (hi : i < ks.length) : TreesAt w F d (ps.eraseIdx i) (ks.eraseIdx i) := by
  have hl := h.1
  refine ⟨by rw [List.length_eraseIdx, List.length_eraseIdx, hl], fun j q' k' hq hk => ?_⟩
  rw [List.getElem?_eraseIdx] at hq hk
  split at hq
  · rename_i hji
    rw [if_pos hji] at hk
    exact h.2 j q' k' hq hk
  · rename_i hji
    rw [if_neg hji] at hk
    exact h.2 (j + 1) q' k' hq hk
theorem TreesAt.ins {w : World} {F : Nat → Prop} {d : Nat} {ps : List Nat} {ks : List Nd} (h : TreesAt w F d ps ks) (i q : Nat) (r : Nd) (hi : i ≤ ks.length) (hr : TreeAt w F d q r) (hn : r.name.size ≤ 9223372036854775807) : TreesAt w F d (ps.take i ++ q :: ps.drop i) (ks.take i ++ r :: ks.drop i) := by
  have hl := h.1
  have t1 : (ps.take i).length = i := by simp; omega
  have t2 : (ks.take i).length = i := by simp; omega
  refine ⟨by simp; omega, fun j q' k' hq hk => ?_⟩
  by_cases hji : j < i
  · rw [List.getElem?_append_left (by omega), List.getElem?_take, if_pos hji] at hq hk
    exact h.2 j q' k' hq hk
  · rw [List.getElem?_append_right (by omega), t1] at hq
    rw [List.getElem?_append_right (by omega), t2] at hk
    by_cases hji2 : j = i
    · subst hji2
      rw [Nat.sub_self, List.getElem?_cons_zero] at hq hk
      injection hq with hq
      injection hk with hk
      subst hq hk
      exact ⟨hn, hr⟩
    · obtain ⟨e, he⟩ : ∃ e, j - i = e + 1 := ⟨j - i - 1, by omega⟩
      rw [he, List.getElem?_cons_succ, List.getElem?_drop] at hq hk
      exact h.2 _ q' k' hq hk
theorem TreesAt.widen {w : World} {F G : Nat → Prop} {d : Nat} {ps : List Nat} {ks : List Nd} (h : TreesAt w F d ps ks) (hG : ∀ b, F b → b < w.heap.size → G b) : TreesAt w G d ps ks :=
  ⟨h.1, fun i q k hq hk => ⟨(h.2 i q k hq hk).1, TreeAt.mono hG _ _ _ (h.2 i q k hq hk).2⟩⟩
theorem TreesAt.deeper {w : World} {F : Nat → Prop} {d e : Nat} {ps : List Nat} {ks : List Nd} (h : TreesAt w F d ps ks) (hde : d ≤ e) : TreesAt w F e ps ks :=
  ⟨h.1, fun i q k hq hk => ⟨(h.2 i q k hq hk).1, (h.2 i q k hq hk).2.deeper hde⟩⟩
theorem ptrs_set (ps : List Nat) (i q : Nat) : (ptrs ps).set i (.pointer (some ⟨q, 0, none⟩)) = ptrs (ps.set i q) := by simp [ptrs, List.map_set]
theorem strs_ins (l : List ByteArray) (i : Nat) (t : ByteArray) : (strs l).take i ++ .string t :: (strs l).drop i = strs (l.take i ++ t :: l.drop i) := by simp [strs, List.map_take, List.map_drop]
theorem ptrs_ins (ps : List Nat) (i q : Nat) : (ptrs ps).take i ++ .pointer (some ⟨q, 0, none⟩) :: (ptrs ps).drop i = ptrs (ps.take i ++ q :: ps.drop i) := by simp [ptrs, List.map_take, List.map_drop]
theorem strs_cut (l : List ByteArray) (i : Nat) : (strs l).eraseIdx i = strs (l.eraseIdx i) := by simp [strs, List.eraseIdx_eq_take_drop_succ, List.map_take, List.map_drop]
theorem ptrs_cut (ps : List Nat) (i : Nat) : (ptrs ps).eraseIdx i = ptrs (ps.eraseIdx i) := by simp [ptrs, List.eraseIdx_eq_take_drop_succ, List.map_take, List.map_drop]
/-- A subtree's address; of none nil. -/
def adO (s : Option (Nat × Nd)) : Value := .pointer (s.map fun x => ⟨x.1, 0, none⟩)
def WithOk (d : Nat) : Prop := ∀ (F : Nat → Prop) (w : World) (p : Nat) (n : Nd) (L : List ByteArray) (a : Option Addr) (nl c : Nat) (s : Option (Nat × Nd)) (e : Nat), TreeAt w F d p n → n.ris → Sl w 1 (.slice a nl c) nl (strs L) → L.length = nl → nl ≤ c → c ≤ 9223372036854775807 → (∀ x ∈ L, x.size ≤ 9223372036854775807) →
  (∀ q x, s = some (q, x) → TreeAt w F e q x) → (s = none → (subOf n L).isSome = true) → n.cnt + cntO (s.map Prod.snd) ≤ 1000000000 →
  Calls Try.prog 86 #[.pointer (some ⟨p, 0, none⟩), .slice a nl c, adO s] w fun e' w' =>
    ((withOf n L (s.map Prod.snd) = none ∧ e' = .returned (.pointer none)) ∨ ∃ (r : Nd) (p' : Nat), withOf n L (s.map Prod.snd) = some r ∧ e' = .returned (.pointer (some ⟨p', 0, none⟩)) ∧ TreeAt w' (fun b => F b ∨ w.heap.size ≤ b) (d + e) p' r) ∧ Below w.heap.size w w'
theorem with_nil (d : Nat) (F : Nat → Prop) (w : World) (p : Nat) (n : Nd) (a : Option Addr) (c : Nat) (s : Option (Nat × Nd)) (e : Nat) (hs : ∀ q x, s = some (q, x) → TreeAt w F e q x) :
    Calls Try.prog 86 #[.pointer (some ⟨p, 0, none⟩), .slice a 0 c, adO s] w fun e' w' =>
    ((withOf n [] (s.map Prod.snd) = none ∧ e' = .returned (.pointer none)) ∨ ∃ (r : Nd) (p' : Nat), withOf n [] (s.map Prod.snd) = some r ∧ e' = .returned (.pointer (some ⟨p', 0, none⟩)) ∧ TreeAt w' (fun b => F b ∨ w.heap.size ≤ b) (d + e) p' r) ∧ Below w.heap.size w w' := by
  rw [withOf_nil]
  cases s with
  | none =>
    show Calls Try.prog 86 #[.pointer (some ⟨p, 0, none⟩), .slice a 0 c, .pointer none] w _
    go_enter Try.func86, Try.ntmps86
    go_wp2
    go_ret
    exact ⟨.inl ⟨rfl, rfl⟩, Below.refl _ _⟩
  | some x =>
    obtain ⟨q, x⟩ := x
    have H := Lib.hid ((TreeAt.mono (G := fun b => F b ∨ w.heap.size ≤ b) (fun b hb _ => .inl hb) _ _ _ (hs q x rfl)).deeper (Nat.le_add_left e d))
    show Calls Try.prog 86 #[.pointer (some ⟨p, 0, none⟩), .slice a 0 c, .pointer (some ⟨q, 0, none⟩)] w _
    clear hs
    go_enter Try.func86, Try.ntmps86
    go_wp2
    go_ret
    exact ⟨.inr ⟨x, q, rfl, rfl, H.out⟩, Below.refl _ _⟩
end Go.Proofs.Ythnbinlllmkabaa
