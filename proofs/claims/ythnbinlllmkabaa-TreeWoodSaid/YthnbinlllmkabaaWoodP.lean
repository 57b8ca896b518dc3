/- Trees told by numbers: plain laws. -/
import Derived.Test.YthnbinlllmkabaaGrow
import Derived.Test.YthnbinlllmkabaaTurn
namespace Go.Proofs.Ythnbinlllmkabaa
open Go.RowKit
set_option linter.unusedVariables false
set_option linter.unusedSimpArgs false

theorem figs_list (i : Nat) : (figs i).toList = [fig i 1000, fig i 100, fig i 10, fig i 1] := by rw [figs, ByteArray.toList_eq]
theorem figs_size (i : Nat) : (figs i).size = 4 := rfl
theorem fig_lt (i j k l : Nat) : fig i j < fig k l ↔ i / j % 10 < k / l % 10 := by
  rw [UInt8.lt_iff_toNat_lt, fig_nat, fig_nat]; omega
theorem fig_eq (i j k l : Nat) : fig i j = fig k l ↔ i / j % 10 = k / l % 10 := by
  rw [← UInt8.toNat_inj, fig_nat, fig_nat]; omega
theorem fig_plain (i j : Nat) : plainB (fig i j) = true := by
  have : i / j % 10 < 10 := Nat.mod_lt _ (by decide)
  unfold plainB
  rw [fig_nat]
  simp
  omega
theorem figs_ok (i : Nat) : nameErr (figs i) = 0 := by
  unfold nameErr
  rw [if_pos]
  unfold okName
  rw [figs_list, figs_size]
  simp [fig_plain]
theorem figs_less (i : Nat) (h : i + 1 < 10000) : Op.bytesLess (figs i).toList (figs (i + 1)).toList = true := by
  rw [figs_list, figs_list]
  simp only [Op.bytesLess, Bool.or_eq_true, Bool.and_eq_true, decide_eq_true_eq, beq_iff_eq, fig_lt, fig_eq, Bool.false_eq_true, and_false, or_false]
  omega
/-- A thing that is right, with what is below it, so many levels below the root. -/
def WoodOk (n : Nd) (lv : Nat) : Prop := ∀ p : ByteArray, (chk n p lv).2 = 0
theorem WoodOk.named {n : Nd} {lv : Nat} (h : WoodOk n lv) (s : ByteArray) : WoodOk (n.named s) lv := fun p => by
  have := h p
  rw [chk_eq] at this ⊢
  by_cases he : ownErr n.v n.m n.kids.length ≠ 0
  · rw [if_pos he] at this; exact absurd this he
  · rw [if_neg he] at this
    rw [if_neg (show ¬ ownErr (n.named s).v (n.named s).m (n.named s).kids.length ≠ 0 from he)]
    exact this
/-- The children of a thing that numbers tell. -/
def WoodKids (ks : List Nd) (lv : Nat) : Prop := ∀ (i : Nat) (k : Nd), ks[i]? = some k → k.name = figs i ∧ WoodOk k lv
theorem woodKids_chk (ks : List Nd) (lv : Nat) (hl : lv < 64) (h : WoodKids ks (lv + 1)) (hn : ks.length ≤ 10000) (p : ByteArray) : ∀ j k : Nat, j + k = ks.length → (chkKids (ks.drop k) (ahead ks k) p lv).2 = 0
  | 0, k, hk => by rw [List.drop_of_length_le (by omega)]; simp [chkKids]
  | j + 1, k, hk => by
    have hlt : k < ks.length := by omega
    obtain ⟨hnm, hok⟩ := h k _ (List.getElem?_eq_getElem hlt)
    have hr : rises (ahead ks k) (ks[k]).name = true := by
      cases k with
      | zero => rfl
      | succ k =>
        rw [ahead_succ ks k (by omega), (h k _ (List.getElem?_eq_getElem (by omega))).1, hnm]
        exact figs_less k (by omega)
    rw [chkKids_good ks k hlt _ rfl p lv (by omega) (by rw [hnm]; exact figs_ok _) hr (hok _)]
    exact woodKids_chk ks lv hl h hn p j (k + 1) (by omega)
theorem woodOk_of (n : Nd) (lv : Nat) (hl : lv < 64) (ho : ownErr n.v n.m n.kids.length = 0) (h : WoodKids n.kids (lv + 1)) (hn : n.kids.length ≤ 10000) : WoodOk n lv := fun p => by
  rw [chk_eq, if_neg (by rw [ho]; decide)]
  exact woodKids_chk n.kids lv hl h hn p n.kids.length 0 (by omega)
theorem WoodKids.push {ks : List Nd} {lv : Nat} (h : WoodKids ks lv) {x : Nd} (hx : WoodOk x lv) : WoodKids (ks ++ [x.named (figs ks.length)]) lv := fun i k hk => by
  by_cases hi : i < ks.length
  · rw [List.getElem?_append_left hi] at hk; exact h i k hk
  · have hl := (List.getElem?_eq_some_iff.1 hk).1
    simp at hl
    obtain rfl : i = ks.length := by omega
    rw [List.getElem?_append_right (Nat.le_refl _), Nat.sub_self] at hk
    simp at hk
    subst hk
    exact ⟨rfl, hx.named _⟩
theorem woodKids_nil (lv : Nat) : WoodKids [] lv := fun i k hk => by simp at hk
theorem own_dir (m : Int) (h0 : 0 ≤ m) (h8 : m ≤ 8) (j : Nat) : ownErr ⟨1, m, 0, zeros⟩ noMk j = 0 := by
  unfold ownErr
  rw [if_neg (by simp), pos_1 rfl, if_pos ⟨rfl, rfl, rfl, h0, h8⟩]
theorem own_link (z : Int) (l : List UInt8) (h0 : 1 ≤ z) (h8 : z ≤ 4095) : ownErr ⟨3, 0, z, l⟩ noMk 0 = 0 := by
  unfold ownErr
  rw [if_neg (by simp), pos_3 rfl, if_pos ⟨rfl, rfl, h0, h8⟩]
theorem own_file (m z : Int) (l : List UInt8) (mm : Mk × Mk) (h0 : 0 ≤ m) (h8 : m ≤ 8) (z0 : 0 ≤ z) (z1 : z ≤ 1099511627775) (m1 : MarkP mm.1) (m2 : MarkP mm.2) : ownErr ⟨2, m, z, l⟩ mm 0 = 0 := by
  unfold ownErr
  rw [if_neg (by simp), pos_2 rfl, if_pos ⟨m1, m2, h0, h8, z0, z1⟩]
end Go.Proofs.Ythnbinlllmkabaa
