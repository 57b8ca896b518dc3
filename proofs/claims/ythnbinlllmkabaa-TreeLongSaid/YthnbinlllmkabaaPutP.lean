/- Trees with other subtrees at paths: plain laws. -/
import Derived.Test.YthnbinlllmkabaaPut
namespace Go.Proofs.Ythnbinlllmkabaa
open Go.RowKit
set_option linter.unusedVariables false
set_option linter.unusedSimpArgs false

theorem blt_total {a b : ByteArray} (h1 : blt a b = false) (h2 : a ≠ b) : blt b a = true := by
  have h := leq_less a.toList b.toList
  unfold blt at h1 ⊢
  rw [h1] at h
  have h3 : (a.toList == b.toList) = false := by rw [beq_eq_false_iff_ne]; exact fun e => h2 (toList_inj e)
  rw [h3] at h
  simpa using h.symm
theorem rank_at {l : List ByteArray} (hr : Rising l) {j : Nat} {t : ByteArray} (h : l[j]? = some t) : rank l t = j := by
  obtain ⟨hj, rfl⟩ := List.getElem?_eq_some_iff.1 h
  refine rank_eq l _ j (Nat.le_of_lt hj) (fun i x hx hij => ?_) (fun x hx => ?_)
  · obtain ⟨hi, rfl⟩ := List.getElem?_eq_some_iff.1 hx
    exact List.pairwise_iff_getElem.1 hr i j hi hj hij
  · rw [List.getElem?_eq_getElem hj] at hx
    injection hx with hx
    rw [← hx]
    exact blt_irrefl _
theorem rank_lt (l : List ByteArray) (t : ByteArray) : ∀ j x, l[j]? = some x → j < rank l t → blt x t = true := by
  induction l with
  | nil => intro j x hx; simp at hx
  | cons y r ih =>
    intro j x hx hj
    unfold rank at hj
    rw [List.takeWhile_cons] at hj
    split at hj
    · rename_i hy
      cases j with
      | zero => simp at hx; rw [← hx]; exact hy
      | succ j => exact ih j x (by simpa using hx) (by unfold rank; simpa using hj)
    · simp at hj
theorem rank_ge (l : List ByteArray) (t : ByteArray) : ∀ x, l[rank l t]? = some x → blt x t = false := by
  induction l with
  | nil => intro x hx; simp at hx
  | cons y r ih =>
    intro x hx
    unfold rank at hx
    rw [List.takeWhile_cons] at hx
    split at hx
    · rw [List.length_cons, List.getElem?_cons_succ] at hx
      exact ih x hx
    · rename_i hy
      simp at hx
      subst hx
      simpa using hy
theorem kidOf_iff {ks : List Nd} (hr : Rising (ks.map Nd.name)) {t : ByteArray} {k : Nd} : kidOf ks t = some k ↔ k ∈ ks ∧ k.name = t := by
  constructor
  · intro h
    obtain ⟨h1, h2, _⟩ := kidOf_some h
    exact ⟨List.mem_of_getElem? h1, h2⟩
  · rintro ⟨h1, h2⟩
    obtain ⟨j, hj, rfl⟩ := List.mem_iff_getElem.1 h1
    have hp : place ks t = j := rank_at hr (by rw [List.getElem?_map, List.getElem?_eq_getElem hj]; simp [h2])
    unfold kidOf
    rw [hp, List.getElem?_eq_getElem hj, Option.bind_some, if_pos h2]
theorem opt_ext {α : Type} {a b : Option α} (h : ∀ x, a = some x ↔ b = some x) : a = b := by
  cases a with
  | none =>
    cases b with
    | none => rfl
    | some y => exact absurd ((h y).2 rfl) (by simp)
  | some x => exact ((h x).1 rfl).symm
/-- The children, with another one (or none) of a name. -/
def kidsWith (ks : List Nd) (t : ByteArray) (o : Option Nd) : List Nd := match kidOf ks t, o with
  | none, some x => ks.take (place ks t) ++ x.named t :: ks.drop (place ks t)
  | none, none => ks
  | some _, some x => ks.set (place ks t) (x.named t)
  | some _, none => ks.eraseIdx (place ks t)
theorem ins_ris {ks : List Nd} (hr : Rising (ks.map Nd.name)) {t : ByteArray} (x : Nd) (h : kidOf ks t = none) : Rising ((ks.take (place ks t) ++ x.named t :: ks.drop (place ks t)).map Nd.name) := by
  have e : (ks.take (place ks t) ++ x.named t :: ks.drop (place ks t)).map Nd.name = (ks.map Nd.name).take (place ks t) ++ t :: (ks.map Nd.name).drop (place ks t) := by simp [List.map_take, List.map_drop, named_name]
  rw [e]
  have hge : ∀ j y, (ks.map Nd.name)[j]? = some y → place ks t ≤ j → blt t y = true := by
    intro j y hy hj
    have hjl := (List.getElem?_eq_some_iff.1 hy).1
    have hpl : place ks t < (ks.map Nd.name).length := by omega
    obtain ⟨z, hz⟩ : ∃ z, (ks.map Nd.name)[place ks t]? = some z := ⟨_, List.getElem?_eq_getElem hpl⟩
    have h1 := rank_ge _ _ z hz
    have hne : z ≠ t := by
      rintro rfl
      have := kidOf_none h
      unfold found at this
      have h2 := of_decide_eq_false this
      exact h2 hz
    have h2 := blt_total h1 hne
    rcases Nat.lt_or_eq_of_le hj with hlt | heq
    · have h3 := List.pairwise_iff_getElem.1 hr _ j hpl hjl hlt
      rw [(List.getElem?_eq_some_iff.1 hz).2, (List.getElem?_eq_some_iff.1 hy).2] at h3
      exact blt_trans h2 h3
    · subst heq
      rw [hz] at hy
      injection hy with hy
      rw [← hy]; exact h2
  unfold Rising
  rw [List.pairwise_append]
  refine ⟨List.Pairwise.sublist (List.take_sublist _ _) hr, ?_, ?_⟩
  · rw [List.pairwise_cons]
    refine ⟨fun y hy => ?_, List.Pairwise.sublist (List.drop_sublist _ _) hr⟩
    obtain ⟨j, hj, rfl⟩ := List.mem_iff_getElem.1 hy
    exact hge (place ks t + j) _ (by rw [← List.getElem?_drop]; exact List.getElem?_eq_getElem hj) (by omega)
  · intro a ha b hb
    obtain ⟨j, hj, rfl⟩ := List.mem_iff_getElem.1 ha
    have hj2 : j < place ks t := by have := hj; rw [List.length_take] at this; omega
    have hat : blt ((ks.map Nd.name).take (place ks t))[j] t = true := rank_lt _ _ j _ (by rw [← List.getElem?_eq_getElem hj, List.getElem?_take, if_pos hj2]) hj2
    rcases List.mem_cons.1 hb with rfl | hb
    · exact hat
    · obtain ⟨i, hi, rfl⟩ := List.mem_iff_getElem.1 hb
      exact blt_trans hat (hge (place ks t + i) _ (by rw [← List.getElem?_drop]; exact List.getElem?_eq_getElem hi) (by omega))
theorem set_names {ks : List Nd} {t : ByteArray} {k : Nd} (x : Nd) (h : kidOf ks t = some k) : (ks.set (place ks t) (x.named t)).map Nd.name = ks.map Nd.name := by
  obtain ⟨h1, h2, _⟩ := kidOf_some h
  rw [List.map_set, named_name]
  refine List.ext_getElem? fun j => ?_
  rw [List.getElem?_set]
  split
  · rename_i hij
    subst hij
    have hlt : place ks t < (ks.map Nd.name).length := by rw [List.length_map]; exact (List.getElem?_eq_some_iff.1 h1).1
    rw [if_pos hlt, List.getElem?_map, h1]
    simp [h2]
  · rfl
theorem kidsWith_ris {ks : List Nd} (hr : Rising (ks.map Nd.name)) (t : ByteArray) (o : Option Nd) : Rising ((kidsWith ks t o).map Nd.name) := by
  unfold kidsWith
  cases h : kidOf ks t with
  | none =>
    cases o with
    | none => exact hr
    | some x => exact ins_ris hr x h
  | some k =>
    cases o with
    | none =>
      show Rising ((ks.eraseIdx _).map Nd.name)
      exact List.Pairwise.sublist ((List.eraseIdx_sublist _ _).map _) hr
    | some x =>
      show Rising ((ks.set _ _).map Nd.name)
      rw [set_names x h]
      exact hr
/-- What stands at which name behind it. -/
theorem kidOf_with {ks : List Nd} (hr : Rising (ks.map Nd.name)) (t : ByteArray) (o : Option Nd) (u : ByteArray) : kidOf (kidsWith ks t o) u = if u = t then o.map (fun x => x.named t) else kidOf ks u := by
  refine opt_ext fun k' => ?_
  rw [kidOf_iff (kidsWith_ris hr t o)]
  unfold kidsWith
  cases h : kidOf ks t with
  | none =>
    cases o with
    | none =>
      show k' ∈ ks ∧ k'.name = u ↔ _
      rw [← kidOf_iff hr]
      by_cases hu : u = t
      · subst hu; rw [if_pos rfl, h]; simp
      · rw [if_neg hu]
    | some x =>
      show k' ∈ ks.take _ ++ x.named t :: ks.drop _ ∧ k'.name = u ↔ _
      have hm : k' ∈ ks.take (place ks t) ++ x.named t :: ks.drop (place ks t) ↔ k' = x.named t ∨ k' ∈ ks := by
        rw [List.mem_append, List.mem_cons]
        conv => rhs; rw [← List.take_append_drop (place ks t) ks, List.mem_append]
        constructor
        · rintro (h | h | h)
          · exact .inr (.inl h)
          · exact .inl h
          · exact .inr (.inr h)
        · rintro (h | h | h)
          · exact .inr (.inl h)
          · exact .inl h
          · exact .inr (.inr h)
      rw [hm]
      by_cases hu : u = t
      · subst hu
        rw [if_pos rfl]
        constructor
        · rintro ⟨h1 | h1, h2⟩
          · rw [h1]; rfl
          · exact absurd ((kidOf_iff hr).2 ⟨h1, h2⟩) (by rw [h]; simp)
        · intro h1
          injection h1 with h1
          exact ⟨.inl h1.symm, by rw [← h1]; rfl⟩
      · rw [if_neg hu, kidOf_iff hr]
        constructor
        · rintro ⟨h1 | h1, h2⟩
          · rw [h1] at h2; exact absurd h2.symm hu
          · exact ⟨h1, h2⟩
        · rintro ⟨h1, h2⟩
          exact ⟨.inr h1, h2⟩
  | some k =>
    obtain ⟨g1, g2, _⟩ := kidOf_some h
    have hlt := (List.getElem?_eq_some_iff.1 g1).1
    have huniq : ∀ j y, ks[j]? = some y → y.name = t → j = place ks t := fun j y hy hn => by
      have := rank_at hr (j := j) (t := t) (by rw [List.getElem?_map, hy]; simp [hn])
      exact this.symm
    cases o with
    | none =>
      show k' ∈ ks.eraseIdx _ ∧ k'.name = u ↔ _
      have hm : k' ∈ ks.eraseIdx (place ks t) ↔ k' ∈ ks ∧ k'.name ≠ t := by
        rw [List.mem_eraseIdx_iff_getElem?]
        constructor
        · rintro ⟨j, hj, hy⟩
          refine ⟨List.mem_of_getElem? hy, fun hn => hj ?_⟩
          exact huniq j k' hy hn
        · rintro ⟨h1, h2⟩
          obtain ⟨j, hj⟩ := List.mem_iff_getElem?.1 h1
          refine ⟨j, fun e => ?_, hj⟩
          rw [e, g1] at hj
          injection hj with hj
          rw [← hj] at h2
          exact h2 g2
      rw [hm]
      by_cases hu : u = t
      · subst hu
        rw [if_pos rfl]
        simp
      · rw [if_neg hu, kidOf_iff hr]
        constructor
        · rintro ⟨⟨h1, _⟩, h2⟩; exact ⟨h1, h2⟩
        · rintro ⟨h1, h2⟩; exact ⟨⟨h1, by rw [h2]; exact hu⟩, h2⟩
    | some x =>
      show k' ∈ ks.set _ _ ∧ k'.name = u ↔ _
      have hm : k' ∈ ks.set (place ks t) (x.named t) ↔ k' = x.named t ∨ (k' ∈ ks ∧ k'.name ≠ t) := by
        rw [List.mem_iff_getElem?]
        constructor
        · rintro ⟨j, hj⟩
          rw [List.getElem?_set] at hj
          split at hj
          · rename_i hij
            (try rw [if_pos hlt] at hj)
            injection hj with hj
            exact .inl hj.symm
          · rename_i hij
            refine .inr ⟨List.mem_of_getElem? hj, fun hn => hij ?_⟩
            exact (huniq j k' hj hn).symm
        · rintro (rfl | ⟨h1, h2⟩)
          · exact ⟨place ks t, by rw [List.getElem?_set, if_pos rfl, if_pos hlt]⟩
          · obtain ⟨j, hj⟩ := List.mem_iff_getElem?.1 h1
            refine ⟨j, ?_⟩
            rw [List.getElem?_set, if_neg]
            · exact hj
            · intro e
              rw [← e, g1] at hj
              injection hj with hj
              rw [← hj] at h2
              exact h2 g2
      rw [hm]
      by_cases hu : u = t
      · subst hu
        rw [if_pos rfl]
        constructor
        · rintro ⟨h1 | ⟨_, h1⟩, h2⟩
          · rw [h1]; rfl
          · exact absurd h2 h1
        · intro h1
          injection h1 with h1
          exact ⟨.inl h1.symm, by rw [← h1]; rfl⟩
      · rw [if_neg hu, kidOf_iff hr]
        constructor
        · rintro ⟨h1 | ⟨h1, _⟩, h2⟩
          · rw [h1] at h2; exact absurd h2.symm hu
          · exact ⟨h1, h2⟩
        · rintro ⟨h1, h2⟩; exact ⟨.inr ⟨h1, by rw [h2]; exact hu⟩, h2⟩
/-- Rising children are told by what stands at each name. -/
theorem kids_ext : ∀ {a b : List Nd}, Rising (a.map Nd.name) → Rising (b.map Nd.name) → (∀ u, kidOf a u = kidOf b u) → a = b
  | [], [], _, _, _ => rfl
  | [], y :: b, ha, hb, h => by
    have := h y.name
    rw [(kidOf_iff hb).2 ⟨by simp, rfl⟩] at this
    exact absurd ((kidOf_iff ha).1 this).1 (by simp)
  | x :: a, [], ha, hb, h => by
    have := h x.name
    rw [(kidOf_iff ha).2 ⟨by simp, rfl⟩] at this
    exact absurd ((kidOf_iff hb).1 this.symm).1 (by simp)
  | x :: a, y :: b, ha, hb, h => by
    have ha' : Rising (x.name :: a.map Nd.name) := ha
    have hb' : Rising (y.name :: b.map Nd.name) := hb
    obtain ⟨ha1, ha2⟩ := List.pairwise_cons.1 ha'
    obtain ⟨hb1, hb2⟩ := List.pairwise_cons.1 hb'
    have hx := h x.name
    rw [(kidOf_iff ha).2 ⟨by simp, rfl⟩] at hx
    have hy := h y.name
    rw [(kidOf_iff hb).2 ⟨by simp, rfl⟩] at hy
    have hxy : x = y := by
      have h1 := ((kidOf_iff hb).1 hx.symm).1
      rcases List.mem_cons.1 h1 with h1 | h1
      · exact h1
      · have h2 := ((kidOf_iff ha).1 hy).1
        rcases List.mem_cons.1 h2 with h2 | h2
        · exact h2.symm
        · have l1 := hb1 x.name (List.mem_map_of_mem h1)
          have l2 := ha1 y.name (List.mem_map_of_mem h2)
          have := blt_trans l1 l2
          rw [blt_irrefl] at this
          cases this
    subst hxy
    congr 1
    refine kids_ext ha2 hb2 fun u => opt_ext fun k => ?_
    have hu := h u
    have key : ∀ {c : List Nd} (hc : Rising ((x :: c).map Nd.name)), kidOf c u = some k ↔ (kidOf (x :: c) u = some k ∧ u ≠ x.name) := by
      intro c hc
      have hc' : Rising (x.name :: c.map Nd.name) := hc
      obtain ⟨hc1, hc2⟩ := List.pairwise_cons.1 hc'
      rw [kidOf_iff hc2, kidOf_iff hc]
      constructor
      · rintro ⟨h1, h2⟩
        refine ⟨⟨by simp [h1], h2⟩, fun e => ?_⟩
        have l1 := hc1 k.name (List.mem_map_of_mem h1)
        rw [h2, e, blt_irrefl] at l1
        cases l1
      · rintro ⟨⟨h1, h2⟩, h3⟩
        rcases List.mem_cons.1 h1 with h1 | h1
        · rw [h1] at h2; exact absurd h2.symm h3
        · exact ⟨h1, h2⟩
    rw [key ha, key hb, hu]
theorem withOf_cons {n : Nd} {t : ByteArray} {l : List ByteArray} {s : Option Nd} (h : kidOf n.kids t = none → s.isSome = true) :
    withOf n (t :: l) s = some (.mk n.name n.v n.m (kidsWith n.kids t (match kidOf n.kids t with | none => s | some k => withOf k l s))) := by
  unfold kidsWith
  cases hk : kidOf n.kids t with
  | none =>
    obtain ⟨x, rfl⟩ := Option.isSome_iff_exists.1 (h hk)
    exact withOf_new l x hk
  | some k =>
    cases hw : withOf k l s with
    | none => rw [withOf_cut hk hw]; simp only [hw]
    | some r => rw [withOf_put hk hw]; simp only [hw]
end Go.Proofs.Ythnbinlllmkabaa
