/- Plain laws of sameO, and of a tree whose modes are unknown. -/
import Derived.Test.YthnbinlllmkabaaTSame
import Derived.Test.YthnbinlllmkabaaUnk
import Derived.Test.YthnbinlllmkabaaGrow
namespace Go.Proofs.Ythnbinlllmkabaa
open Go.RowKit
set_option linter.unusedVariables false
set_option linter.unusedSimpArgs false

theorem openV_false (v u : Vl) : openV false v u = v := by unfold openV; rw [if_neg (by simp)]
theorem openV_self (o : Bool) (v : Vl) : openV o v v = v := by
  unfold openV
  split
  · rename_i h
    cases v with
    | mk k m s t => simp only at h; rw [h.2.1]
  · rfl
theorem openV_unk (v : Vl) : openV true v (unkV v) = unkV v := by
  by_cases h : v.kind = 3
  · have e : unkV v = v := by unfold unkV; rw [if_pos h]
    rw [e, openV_self]
  · have e : unkV v = ⟨v.kind, 8, v.size, v.sum⟩ := by unfold unkV; rw [if_neg h]
    rw [e]
    unfold openV
    rw [if_pos ⟨rfl, rfl, h⟩]
mutual
theorem mapN_id : ∀ n : Nd, mapN id id n = n
  | .mk n v m ks => by rw [mapN, mapNs_id ks]; rfl
theorem mapNs_id : ∀ ks : List Nd, mapNs id id ks = ks
  | [] => by rw [mapNs]
  | k :: ks => by rw [mapNs, mapN_id k, mapNs_id ks]
end
theorem mapN_name (f : Vl → Vl) (g : Mk × Mk → Mk × Mk) (n : Nd) : (mapN f g n).name = n.name := by rw [mapN_eq]; rfl
theorem mapNs_names (f : Vl → Vl) (g : Mk × Mk → Mk × Mk) : ∀ ks : List Nd, (mapNs f g ks).map Nd.name = ks.map Nd.name
  | [] => by rw [mapNs]
  | k :: ks => by rw [mapNs, List.map_cons, List.map_cons, mapN_name, mapNs_names f g ks]
theorem mapNs_length (f : Vl → Vl) (g : Mk × Mk → Mk × Mk) (ks : List Nd) : (mapNs f g ks).length = ks.length := by rw [mapNs_eq, List.length_map]
mutual
theorem same_bare : ∀ n u : Nd, sameO false n u = (bareN n).alike (bareN u)
  | .mk a v m ks, .mk b u l js => by
    have h := sameKids_bare ks js
    unfold bareN
    rw [sameO, openV_false, mapN, mapN, Nd.alike, h]
    simp
theorem sameKids_bare : ∀ ks js : List Nd, (decide (ks.map Nd.name = js.map Nd.name) && sameKids false ks js) = (decide ((mapNs id (fun _ => noMk) ks).length = (mapNs id (fun _ => noMk) js).length) && alikeKids (mapNs id (fun _ => noMk) ks) (mapNs id (fun _ => noMk) js))
  | [], [] => by simp [mapNs, sameKids, alikeKids]
  | [], j :: js => by simp [mapNs]
  | k :: ks, [] => by simp [mapNs]
  | k :: ks, j :: js => by
    have h1 := same_bare k j
    have h2 := sameKids_bare ks js
    unfold bareN at h1
    rw [sameKids, mapNs, mapNs, alikeKids, ← h1, mapN_name, mapN_name]
    rw [Bool.eq_iff_iff] at h2 ⊢
    simp only [Bool.and_eq_true, decide_eq_true_eq, List.map_cons, List.cons.injEq, List.length_cons, Nat.add_right_cancel_iff] at h2 ⊢
    constructor
    · rintro ⟨⟨a, b⟩, c, d⟩
      obtain ⟨e, f⟩ := h2.1 ⟨b, d⟩
      exact ⟨e, a, c, f⟩
    · rintro ⟨e, a, c, f⟩
      obtain ⟨b, d⟩ := h2.2 ⟨e, f⟩
      exact ⟨⟨a, b⟩, c, d⟩
end
mutual
theorem same_symm : ∀ n u : Nd, sameO false n u = sameO false u n
  | .mk a v m ks, .mk b u l js => by
    have h := sameKids_symm ks js
    rw [sameO, sameO, openV_false, openV_false, h, show decide (v = u) = decide (u = v) from decide_eq_decide.2 eq_comm, show decide (ks.map Nd.name = js.map Nd.name) = decide (js.map Nd.name = ks.map Nd.name) from decide_eq_decide.2 eq_comm]
theorem sameKids_symm : ∀ ks js : List Nd, sameKids false ks js = sameKids false js ks
  | [], [] => rfl
  | [], j :: js => by simp [sameKids]
  | k :: ks, [] => by simp [sameKids]
  | k :: ks, j :: js => by rw [sameKids, sameKids, same_symm k j, sameKids_symm ks js]
end
mutual
theorem same_refl : ∀ n : Nd, sameO false n n = true
  | .mk a v m ks => by rw [sameO, openV_false, decide_eq_true rfl, decide_eq_true rfl, sameKids_refl ks]; rfl
theorem sameKids_refl : ∀ ks : List Nd, sameKids false ks ks = true
  | [] => by simp [sameKids]
  | k :: ks => by rw [sameKids, same_refl k, sameKids_refl ks]; rfl
end
mutual
theorem same_lift (o : Bool) (f : Vl → Vl) (g : Mk × Mk → Mk × Mk) (hf : ∀ v, openV o v (f v) = f v) : ∀ n u : Nd, sameO false n u = true → sameO o n (mapN f g u) = true
  | .mk a v m ks, .mk b u l js, h => by
    rw [sameO, openV_false, Bool.and_eq_true, Bool.and_eq_true] at h
    obtain ⟨h1, h2, h3⟩ := h
    obtain rfl := of_decide_eq_true h1
    have h4 := sameKids_lift o f g hf ks js h3
    rw [mapN, sameO, hf v, decide_eq_true rfl, decide_eq_true (by rw [mapNs_names]; exact of_decide_eq_true h2), h4]
    rfl
theorem sameKids_lift (o : Bool) (f : Vl → Vl) (g : Mk × Mk → Mk × Mk) (hf : ∀ v, openV o v (f v) = f v) : ∀ ks js : List Nd, sameKids false ks js = true → sameKids o ks (mapNs f g js) = true
  | [], js, _ => by simp [sameKids]
  | k :: ks, [], _ => by simp [sameKids, mapNs]
  | k :: ks, j :: js, h => by
    rw [sameKids, Bool.and_eq_true] at h
    have h1 := same_lift o f g hf k j h.1
    have h2 := sameKids_lift o f g hf ks js h.2
    rw [mapNs, sameKids, h1, h2]
    rfl
end
theorem same_open (n u : Nd) (h : sameO false n u = true) : sameO true n u = true := by
  have := same_lift true id id (fun v => openV_self true v) n u h
  rwa [mapN_id] at this
theorem same_unk (n u : Nd) (h : sameO false n u = true) : sameO true n (unkN u) = true := same_lift true unkV id openV_unk n u h
mutual
theorem same_trans : ∀ n u x : Nd, sameO false n u = true → sameO false u x = true → sameO false n x = true
  | .mk a v m ks, .mk b u l js, .mk c x y ls, h, k => by
    rw [sameO, openV_false, Bool.and_eq_true, Bool.and_eq_true] at h k
    obtain ⟨h1, h2, h3⟩ := h
    obtain ⟨k1, k2, k3⟩ := k
    have e1 := of_decide_eq_true h1
    have e2 := of_decide_eq_true k1
    have e3 := of_decide_eq_true h2
    have e4 := of_decide_eq_true k2
    have hl : ks.length = js.length := by have := congrArg List.length e3; simpa using this
    have h5 := sameKids_trans ks js ls hl h3 k3
    rw [sameO, openV_false, decide_eq_true (e1.trans e2), decide_eq_true (e3.trans e4), h5]
    rfl
theorem sameKids_trans : ∀ ks js ls : List Nd, ks.length = js.length → sameKids false ks js = true → sameKids false js ls = true → sameKids false ks ls = true
  | [], js, ls, _, _, _ => by simp [sameKids]
  | k :: ks, js, [], _, _, _ => by simp [sameKids]
  | k :: ks, [], l :: ls, hl, _, _ => by simp at hl
  | k :: ks, j :: js, l :: ls, hl, h, g => by
    rw [sameKids, Bool.and_eq_true] at h g
    have h1 := same_trans k j l h.1 g.1
    have h2 := sameKids_trans ks js ls (by simpa using hl) h.2 g.2
    rw [sameKids, h1, h2]
    rfl
end
theorem ownErr_unk (v : Vl) (m : Mk × Mk) (k : Nat) (h : ownErr v m k = 0) : ownErr (unkV v) m k = 0 := by
  by_cases h3 : v.kind = 3
  · have e : unkV v = v := by unfold unkV; rw [if_pos h3]
    rw [e]; exact h
  · have e : unkV v = ⟨v.kind, 8, v.size, v.sum⟩ := by unfold unkV; rw [if_neg h3]
    rw [e]
    unfold ownErr posErr at h ⊢
    show (if v.kind < 1 ∨ 3 < v.kind ∨ (v.kind ≠ 1 ∧ 0 < k) then (40 : Int) else if v.kind = 1 ∨ v.kind = 2 ∨ v.kind = 3 then (if RightP ⟨v.kind, 8, v.size, v.sum⟩ ∧ MarkP m.1 ∧ MarkP m.2 ∧ (v.kind = 2 ∨ m = noMk) then 0 else 41) else 40) = 0
    by_cases c1 : v.kind < 1 ∨ 3 < v.kind ∨ (v.kind ≠ 1 ∧ 0 < k)
    · rw [if_pos c1] at h; exact absurd h (by decide)
    · rw [if_neg c1] at h ⊢
      by_cases c2 : v.kind = 1 ∨ v.kind = 2 ∨ v.kind = 3
      · rw [if_pos c2] at h ⊢
        by_cases c3 : RightP v ∧ MarkP m.1 ∧ MarkP m.2 ∧ (v.kind = 2 ∨ m = noMk)
        · rw [if_pos]
          refine ⟨?_, c3.2⟩
          rcases c3.1 with ⟨a, _, _, b, c⟩ | ⟨a, _, _, b, c⟩ | ⟨a, _⟩
          · exact .inl ⟨a, show (0 : Int) ≤ 8 by decide, show (8 : Int) ≤ 8 by decide, b, c⟩
          · exact .inr (.inl ⟨a, show (0 : Int) ≤ 8 by decide, show (8 : Int) ≤ 8 by decide, b, c⟩)
          · exact absurd a h3
        · rw [if_neg c3] at h; exact absurd h (by decide)
      · rw [if_neg c2] at h; exact absurd h (by decide)
mutual
theorem chk_unk : ∀ (n : Nd) (p : ByteArray) (lv : Nat), (chk n p lv).2 = 0 → (chk (mapN unkV id n) p lv).2 = 0
  | .mk a v m ks, p, lv, h => by
    rw [chk] at h
    by_cases ho : ownErr v m ks.length ≠ 0
    · rw [if_pos ho] at h; exact absurd h ho
    · rw [if_neg ho] at h
      have h2 := chkKids_unk ks none p lv h
      rw [mapN, chk, mapNs_length, if_neg (fun hh => hh (ownErr_unk v m ks.length (Decidable.not_not.1 ho)))]
      exact h2
theorem chkKids_unk : ∀ (ks : List Nd) (prev : Option ByteArray) (p : ByteArray) (lv : Nat), (chkKids ks prev p lv).2 = 0 → (chkKids (mapNs unkV id ks) prev p lv).2 = 0
  | [], _, _, _, _ => by rw [mapNs]; rfl
  | k :: ks, prev, p, lv, h => by
    rw [chkKids] at h
    by_cases h1 : lv = 64
    · rw [if_pos h1] at h; simp at h
    · rw [if_neg h1] at h
      by_cases h2 : nameErr k.name ≠ 0
      · rw [if_pos h2] at h; exact absurd h h2
      · rw [if_neg h2] at h
        by_cases h3 : rises prev k.name = false
        · rw [if_pos h3] at h; simp at h
        · rw [if_neg h3] at h
          by_cases h4 : (chk k (under p lv k.name) (lv + 1)).2 ≠ 0
          · rw [if_pos h4] at h; exact absurd h h4
          · rw [if_neg h4] at h
            have g1 := chk_unk k (under p lv k.name) (lv + 1) (Decidable.not_not.1 h4)
            have g2 := chkKids_unk ks (some k.name) p lv h
            rw [mapNs, chkKids, mapN_name, if_neg h1, if_neg h2, if_neg h3, if_neg (fun hh => hh g1)]
            exact g2
end
theorem unk_good (n : Nd) (h : chkErr n = 0) : chkErr (unkN n) = 0 := chk_unk n ⟨#[]⟩ 0 h
mutual
theorem mapN_parts (f : Vl → Vl) (g : Mk × Mk → Mk × Mk) : ∀ n : Nd, (mapN f g n).parts = n.parts
  | .mk a v m ks => by
    have h := mapNs_parts f g ks
    rw [mapN, parts_eq, parts_eq]
    show 1 + a.size + partsAll (mapNs f g ks) = 1 + a.size + partsAll ks
    rw [h]
theorem mapNs_parts (f : Vl → Vl) (g : Mk × Mk → Mk × Mk) : ∀ ks : List Nd, partsAll (mapNs f g ks) = partsAll ks
  | [] => by rw [mapNs]
  | k :: ks => by rw [mapNs, partsAll, partsAll, mapN_parts f g k, mapNs_parts f g ks]
end
theorem named_le (x : Nd) : (x.named ⟨#[]⟩).parts ≤ x.parts := by
  rw [parts_eq, parts_eq x]
  show 1 + 0 + partsAll x.kids ≤ 1 + x.name.size + partsAll x.kids
  omega
theorem sameO_named (o : Bool) (n u : Nd) (s t : ByteArray) : sameO o (n.named s) (u.named t) = sameO o n u := by rw [sameO_eq, sameO_eq]; rfl
theorem bareN_named (n : Nd) (s : ByteArray) : bareN (n.named s) = (bareN n).named s := by cases n; unfold bareN; rw [Nd.named, mapN, mapN]; rfl
theorem unkN_named (n : Nd) (s : ByteArray) : unkN (n.named s) = (unkN n).named s := by cases n; unfold unkN; rw [Nd.named, mapN, mapN]; rfl
theorem chkErr_named (n : Nd) (s : ByteArray) : chkErr (n.named s) = chkErr n := by unfold chkErr; rw [chk_eq, chk_eq]; rfl
end Go.Proofs.Ythnbinlllmkabaa
