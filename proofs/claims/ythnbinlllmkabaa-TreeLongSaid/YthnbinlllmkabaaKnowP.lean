/- The chapter's examples: plain laws. -/
import Derived.Test.YthnbinlllmkabaaPut
import Derived.Test.YthnbinlllmkabaaGrow
namespace Go.Proofs.Ythnbinlllmkabaa
open Go.RowKit
set_option linter.unusedVariables false
set_option linter.unusedSimpArgs false

def zSum : List UInt8 := List.replicate 32 0
def noMks : Mk × Mk := (⟨0, 0⟩, ⟨0, 0⟩)
def bA : ByteArray := ⟨#[97]⟩
def bD : ByteArray := ⟨#[100]⟩
def bX : ByteArray := ⟨#[120]⟩
def bE : ByteArray := ⟨#[101]⟩
def b0 : ByteArray := ⟨#[]⟩
def bDX : ByteArray := ⟨#[100, 47, 120]⟩
def bAX : ByteArray := ⟨#[97, 47, 120]⟩
def kA : Nd := .mk bA ⟨2, 6, 3, zSum⟩ noMks []
def kD : Nd := .mk bD ⟨1, 5, 0, zSum⟩ noMks []
def kN : Nd := .mk b0 ⟨1, 7, 0, zSum⟩ noMks [kA, kD]
def kS : Nd := .mk b0 ⟨1, 7, 0, zSum⟩ noMks [kD, kA]
def kL : Nd := .mk b0 ⟨3, 0, 1, zSum⟩ noMks []
theorem toList_mk (l : List UInt8) : (⟨l.toArray⟩ : ByteArray).toList = l := by rw [ByteArray.toList_eq]
theorem tl_A : bA.toList = [97] := toList_mk [97]
theorem tl_D : bD.toList = [100] := toList_mk [100]
theorem tl_X : bX.toList = [120] := toList_mk [120]
theorem tl_E : bE.toList = [101] := toList_mk [101]
theorem okName_of {s : ByteArray} {l : List UInt8} (h : s.toList = l) (h1 : 1 ≤ l.length) (h2 : l.length ≤ 255) (h3 : (l == [46]) = false) (h4 : (l == [46, 46]) = false) (h5 : l.all plainB = true) : okName s = true := by
  unfold okName
  have hs : s.size = l.length := by rw [← toList_len, h]
  rw [h, hs, h3, h4, h5]
  simp [h1, h2]
theorem ok_A : okName bA = true := okName_of tl_A (by decide) (by decide) (by decide) (by decide) (by decide)
theorem ok_D : okName bD = true := okName_of tl_D (by decide) (by decide) (by decide) (by decide) (by decide)
theorem ok_X : okName bX = true := okName_of tl_X (by decide) (by decide) (by decide) (by decide) (by decide)
theorem ok_E : okName bE = true := okName_of tl_E (by decide) (by decide) (by decide) (by decide) (by decide)
theorem pieces_0 : pieces b0 = [] := by unfold pieces; rfl
theorem pieces_one (b : UInt8) (hb : b.toNat ≠ 47) : pieces ⟨#[b]⟩ = [⟨#[b]⟩] := by
  unfold pieces
  rw [if_neg (by show ¬ ((_ : Nat) = 0); simp [ByteArray.size])]
  rw [cutAt_miss _ 0 0 (by show 0 < 1; omega) (by exact hb)]
  show cutAt _ 0 1 = _
  rw [show (1 : Nat) = (⟨#[b]⟩ : ByteArray).size from rfl, cutAt_end]
  congr 1
theorem pieces_two (b c : UInt8) (hb : b.toNat ≠ 47) (hc : c.toNat ≠ 47) : pieces ⟨#[b, 47, c]⟩ = [⟨#[b]⟩, ⟨#[c]⟩] := by
  unfold pieces
  rw [if_neg (by show ¬ ((_ : Nat) = 0); simp [ByteArray.size])]
  rw [cutAt_miss _ 0 0 (by show 0 < 3; omega) (by exact hb)]
  show cutAt _ 0 1 = _
  rw [cutAt_hit _ 0 1 (by show 1 < 3; omega) (by rfl)]
  show _ :: cutAt _ 2 2 = _
  rw [cutAt_miss _ 2 2 (by show 2 < 3; omega) (by exact hc)]
  show _ :: cutAt _ 2 3 = _
  rw [show (3 : Nat) = (⟨#[b, 47, c]⟩ : ByteArray).size from rfl, cutAt_end]
  congr 1
theorem pieces_e : pieces bE = [bE] := pieces_one 101 (by decide)
theorem pieces_dx : pieces bDX = [bD, bX] := pieces_two 100 120 (by decide) (by decide)
theorem pieces_ax : pieces bAX = [bA, bX] := pieces_two 97 120 (by decide) (by decide)
theorem split_of {s : ByteArray} {l : List ByteArray} (h : pieces s = l) (h1 : l.length ≤ 64) (h2 : ∀ x ∈ l, okName x = true) : splitErr s 64 = 0 := by
  unfold splitErr
  rw [h, if_neg (by omega), if_pos (by rw [List.all_eq_true]; exact h2)]
theorem split_0 : splitErr b0 64 = 0 := split_of pieces_0 (by decide) (by simp)
theorem split_e : splitErr bE 64 = 0 := split_of pieces_e (by decide) (by simp [ok_E])
theorem split_dx : splitErr bDX 64 = 0 := split_of pieces_dx (by decide) (by simp [ok_D, ok_X])
theorem split_ax : splitErr bAX 64 = 0 := split_of pieces_ax (by decide) (by simp [ok_A, ok_X])
theorem lt_AD : blt bA bD = true := by unfold blt; rw [tl_A, tl_D]; rfl
theorem lt_DA : blt bD bA = false := by unfold blt; rw [tl_A, tl_D]; rfl
theorem lt_AA : blt bA bA = false := blt_irrefl _
theorem lt_DD : blt bD bD = false := blt_irrefl _
theorem lt_AE : blt bA bE = true := by unfold blt; rw [tl_A, tl_E]; rfl
theorem lt_DE : blt bD bE = true := by unfold blt; rw [tl_D, tl_E]; rfl
theorem bind_if {k : Nd} {t : ByteArray} (h : k.name = t) : ((some k).bind fun k => if k.name = t then some k else none) = some k := by rw [Option.bind_some, if_pos h]
theorem kid_D : kidOf kN.kids bD = some kD := by
  have h : place kN.kids bD = 1 := by
    show ([bA, bD].takeWhile fun x => blt x bD).length = 1
    rw [List.takeWhile_cons, if_pos lt_AD, List.takeWhile_cons, if_neg (by rw [lt_DD]; decide)]
    rfl
  unfold kidOf
  rw [h]
  show (some kD).bind _ = _
  exact bind_if rfl
theorem kid_A : kidOf kN.kids bA = some kA := by
  have h : place kN.kids bA = 0 := by
    show ([bA, bD].takeWhile fun x => blt x bA).length = 0
    rw [List.takeWhile_cons, if_neg (by rw [lt_AA]; decide)]
    rfl
  unfold kidOf
  rw [h]
  show (some kA).bind _ = _
  exact bind_if rfl
theorem kid_E : kidOf kN.kids bE = none := by
  have h : place kN.kids bE = 2 := by
    show ([bA, bD].takeWhile fun x => blt x bE).length = 2
    rw [List.takeWhile_cons, if_pos lt_AE, List.takeWhile_cons, if_pos lt_DE]
    rfl
  unfold kidOf
  rw [h]
  rfl
theorem kid_nil (t : ByteArray) : kidOf [] t = none := rfl
theorem ris_N : kN.ris := by
  rw [ris_eq]
  refine ⟨?_, ?_⟩
  · show List.Pairwise _ [bA, bD]
    simp [lt_AD]
  · show kA.ris ∧ kD.ris ∧ True
    refine ⟨?_, ?_, trivial⟩
    · rw [ris_eq]; exact ⟨List.Pairwise.nil, trivial⟩
    · rw [ris_eq]; exact ⟨List.Pairwise.nil, trivial⟩
theorem ris_L : kL.ris := by rw [ris_eq]; exact ⟨List.Pairwise.nil, trivial⟩
theorem cnt_N : kN.cnt = 3 := rfl
theorem dep_N : kN.dep = 1 := rfl
theorem cnt_L : kL.cnt = 1 := rfl
theorem dep_L : kL.dep = 0 := rfl
theorem way_dx : wayOf kN [bD, bX] = true := by rw [wayOf_two, kid_D]; rfl
theorem way_ax : wayOf kN [bA, bX] = false := by rw [wayOf_two, kid_A]; rfl
theorem put_dx : putErr kN bDX kL = 0 := putErr_ne.2 ⟨split_dx, by rw [pieces_dx]; exact way_dx, by rw [pieces_dx, dep_L]; decide⟩
theorem put_ax : putErr kN bAX kL = 44 := by
  unfold putErr
  rw [if_neg (by rw [split_ax]; decide), pieces_ax, if_pos way_ax]
theorem drop_e : dropErr kN bE = 45 := by
  unfold dropErr
  rw [if_neg (by rw [split_e]; decide), pieces_e, if_neg (by simp), wayOf_one, if_neg (by decide), if_pos (by rw [subOf, kid_E]; rfl)]
theorem drop_0 : dropErr kN b0 = 46 := by
  unfold dropErr
  rw [if_neg (by rw [split_0]; decide), pieces_0, if_pos rfl]
/-- The tree behind the Put. -/
def kD2 : Nd := .mk bD ⟨1, 5, 0, zSum⟩ noMks [kL.named bX]
def kP : Nd := .mk b0 ⟨1, 7, 0, zSum⟩ noMks [kA, kD2.named bD]
theorem put_is : putOf kN bDX kL = kP := by
  have h1 : withOf kD [bX] (some kL) = some kD2 := by
    rw [withOf_new (n := kD) (t := bX) [] kL rfl]
    rfl
  have h2 : withOf kN [bD, bX] (some kL) = some kP := by
    rw [withOf_put kid_D h1]
    have h : place kN.kids bD = 1 := by
      show ([bA, bD].takeWhile fun x => blt x bD).length = 1
      rw [List.takeWhile_cons, if_pos lt_AD, List.takeWhile_cons, if_neg (by rw [lt_DD]; decide)]
      rfl
    rw [h]
    rfl
  unfold putOf
  rw [pieces_dx, h2]
  rfl
theorem cnt_P : kP.cnt = 4 := rfl
theorem kid_D2 : kidOf kP.kids bD = some (kD2.named bD) := by
  have h : place kP.kids bD = 1 := by
    show ([bA, bD].takeWhile fun x => blt x bD).length = 1
    rw [List.takeWhile_cons, if_pos lt_AD, List.takeWhile_cons, if_neg (by rw [lt_DD]; decide)]
    rfl
  unfold kidOf
  rw [h]
  show (some (kD2.named bD)).bind _ = _
  exact bind_if rfl
theorem lt_XX : blt bX bX = false := blt_irrefl _
theorem kid_X2 : kidOf (kD2.named bD).kids bX = some (kL.named bX) := by
  have h : place (kD2.named bD).kids bX = 0 := by
    show ([bX].takeWhile fun x => blt x bX).length = 0
    rw [List.takeWhile_cons, if_neg (by rw [lt_XX]; decide)]
    rfl
  unfold kidOf
  rw [h]
  show (some (kL.named bX)).bind _ = _
  exact bind_if rfl
theorem sub_dx2 : subAt kP bDX = some (kL.named bX) := by
  unfold subAt
  rw [if_pos split_dx, pieces_dx, subOf, kid_D2]
  show subOf _ _ = _
  rw [subOf, kid_X2]
  rfl
theorem sub_dx : subAt kN bDX = none := by
  unfold subAt
  rw [if_pos split_dx, pieces_dx, subOf, kid_D]
  show subOf kD _ = _
  rw [subOf, show kidOf kD.kids bX = none from rfl]
  rfl
theorem ris_P : kP.ris := by
  rw [ris_eq]
  refine ⟨?_, ?_⟩
  · show List.Pairwise _ [bA, bD]
    simp [lt_AD]
  · show kA.ris ∧ (kD2.named bD).ris ∧ True
    refine ⟨?_, ?_, trivial⟩
    · rw [ris_eq]; exact ⟨List.Pairwise.nil, trivial⟩
    · rw [ris_eq]
      refine ⟨List.pairwise_singleton _ _, ?_⟩
      show (kL.named bX).ris ∧ True
      exact ⟨by rw [ris_eq]; exact ⟨List.Pairwise.nil, trivial⟩, trivial⟩
theorem own_A : ownErr kA.v kA.m 0 = 0 := by decide
theorem own_D : ownErr kD.v kD.m 0 = 0 := by decide
theorem own_N : ownErr kN.v kN.m 2 = 0 := by decide
theorem own_L : ownErr kL.v kL.m 0 = 0 := by decide
theorem err_A : nameErr kA.name = 0 := by unfold nameErr; rw [show okName kA.name = true from ok_A]; rfl
theorem err_D : nameErr kD.name = 0 := by unfold nameErr; rw [show okName kD.name = true from ok_D]; rfl
theorem chk_A (p : ByteArray) : chk kA p 1 = (⟨#[]⟩, 0) := by rw [chk_eq, if_neg (by rw [show kA.kids.length = 0 from rfl, own_A]; decide)]; rfl
theorem chk_D (p : ByteArray) : chk kD p 1 = (⟨#[]⟩, 0) := by rw [chk_eq, if_neg (by rw [show kD.kids.length = 0 from rfl, own_D]; decide)]; rfl
theorem chk_L : chkErr kL = 0 := by
  unfold chkErr
  rw [chk_eq, if_neg (by rw [show kL.kids.length = 0 from rfl, own_L]; decide)]
  rfl
theorem chk_N : chkErr kN = 0 := by
  unfold chkErr
  rw [chk_eq, if_neg (by rw [show kN.kids.length = 2 from rfl, own_N]; decide)]
  show (chkKids [kA, kD] none ⟨#[]⟩ 0).2 = 0
  rw [chkKids, if_neg (by decide), if_neg (by rw [err_A]; decide), if_neg (by decide), if_neg (by rw [chk_A]; decide)]
  rw [chkKids, if_neg (by decide), if_neg (by rw [err_D]; decide), if_neg (by show ¬ (Op.bytesLess bA.toList bD.toList = false); rw [show Op.bytesLess bA.toList bD.toList = true from lt_AD]; decide), if_neg (by rw [chk_D]; decide)]
  rfl
theorem chk_S : chk kS ⟨#[]⟩ 0 = (bA, 42) := by
  rw [chk_eq, if_neg (by show ¬ (ownErr kN.v kN.m 2 ≠ 0); rw [own_N]; decide)]
  show chkKids [kD, kA] none ⟨#[]⟩ 0 = _
  rw [chkKids, if_neg (by decide), if_neg (by rw [err_D]; decide), if_neg (by decide), if_neg (by rw [chk_D]; decide)]
  rw [chkKids, if_neg (by decide), if_neg (by rw [err_A]; decide), if_pos (by show Op.bytesLess bD.toList bA.toList = false; exact lt_DA)]
  rfl
end Go.Proofs.Ythnbinlllmkabaa
