/- The first wrong thing of a node: as data; the program's check. -/
import Derived.Test.YthnbinlllmkabaaPoss2
import Derived.Test.YthnbinlllmkabaaPoss3
import Derived.Test.YthnbinlllmkabaaCnt
import Derived.Test.YthnbinlllmkabaaLess
import Derived.Test.YthnbinlllmkabaaCopy
namespace Go.Proofs.Ythnbinlllmkabaa
open Go.RowKit
set_option linter.unusedVariables false
set_option linter.unusedSimpArgs false

theorem possible_any (w : World) (v : Vl) (m : Mk × Mk) (hv : v.sum.length = 32) :
    Calls Try.prog 90 #[.agg v.cells.toArray, .agg (mcells m).toArray] w fun e w' => e = .returned (.int .i64 (posErr v m)) ∧ Below w.heap.size w w' := by
  by_cases h1 : v.kind = 1
  · exact possible_1 w v m hv h1
  by_cases h2 : v.kind = 2
  · exact possible_2 w v m hv h2
  by_cases h3 : v.kind = 3
  · by_cases hm : m = noMk
    · exact possible_3t w v m hv h3 hm
    · exact possible_3f w v m hv h3 hm
  exact possible_0 w v m hv ⟨h1, h2, h3⟩
/-- A path and a name below it. -/
def under (p : ByteArray) (lv : Nat) (s : ByteArray) : ByteArray := if lv = 0 then s else p ++ ⟨#[47]⟩ ++ s
/-- Does a name stand behind the one ahead of it? -/
def rises (prev : Option ByteArray) (s : ByteArray) : Bool := match prev with | none => true | some q => Op.bytesLess q.toList s.toList
mutual
/-- The first wrong thing of a node and what hangs below it. -/
def chk : Nd → ByteArray → Nat → ByteArray × Int
  | .mk _ v m ks, p, lv => if ownErr v m ks.length ≠ 0 then (p, ownErr v m ks.length) else chkKids ks none p lv
def chkKids : List Nd → Option ByteArray → ByteArray → Nat → ByteArray × Int
  | [], _, _, _ => (⟨#[]⟩, 0)
  | k :: ks, prev, p, lv =>
    if lv = 64 then (under p lv k.name, 43)
    else if nameErr k.name ≠ 0 then (under p lv k.name, nameErr k.name)
    else if rises prev k.name = false then (under p lv k.name, 42)
    else if (chk k (under p lv k.name) (lv + 1)).2 ≠ 0 then chk k (under p lv k.name) (lv + 1)
    else chkKids ks (some k.name) p lv
end
theorem chk_eq (n : Nd) (p : ByteArray) (lv : Nat) : chk n p lv = if ownErr n.v n.m n.kids.length ≠ 0 then (p, ownErr n.v n.m n.kids.length) else chkKids n.kids none p lv := by cases n; rfl
/-- The name ahead of place i. -/
def ahead (ks : List Nd) (i : Nat) : Option ByteArray := if i = 0 then none else (ks[i - 1]?).map Nd.name
theorem ahead_succ (ks : List Nd) (i : Nat) (h : i < ks.length) : ahead ks (i + 1) = some (ks[i]).name := by
  unfold ahead
  rw [if_neg (by omega), Nat.add_sub_cancel, List.getElem?_eq_getElem h]
  rfl
theorem drop_cons (ks : List Nd) (i : Nat) (h : i < ks.length) : ks.drop i = ks[i] :: ks.drop (i + 1) := List.drop_eq_getElem_cons h
def ChkOk (F : Nat → Prop) (d : Nat) : Prop := ∀ (w : World) (n : Nd) (a : Option Addr) (c : Nat) (p : ByteArray) (lv : Nat), NodeIn w F d n a → n.parts ≤ 1000000 → p.size ≤ 256 * lv → lv ≤ 64 →
  Calls Try.prog 62 #[.agg (n.row a c).toArray, .string p, .int .i64 (lv : Nat)] w fun e w' => e = .returned (.tuple #[.string (chk n p lv).1, .int .i64 (chk n p lv).2]) ∧ Below w.heap.size w w'
set_option maxHeartbeats 2000000 in
set_option maxRecDepth 100000 in
theorem check_own (w : World) (F : Nat → Prop) (d : Nat) (n : Nd) (a : Option Addr) (c : Nat) (p : ByteArray) (lv : Nat) (hn : NodeIn w F d n a) (hlv : lv ≤ 64) (he : ownErr n.v n.m n.kids.length ≠ 0) :
    Calls Try.prog 62 #[.agg (n.row a c).toArray, .string p, .int .i64 (lv : Nat)] w fun e w' => e = .returned (.tuple #[.string p, .int .i64 (ownErr n.v n.m n.kids.length)]) ∧ Below w.heap.size w w' := by
  have hblk := heap_alloc_new w (.cells (n.row a c).toArray 30)
  obtain ⟨f0, fv, fm, f40⟩ := nrow_at (o := 0) hn.vwf (rangeAt_row hblk)
  obtain ⟨g0, g1, g2, _⟩ := vl_at fv
  simp only [Nat.zero_add] at f0 f40 fv fm g0 g1 g2
  have hkz := hn.ksz
  have Fv := Lib.hid fv
  have Fm := Lib.hid fm
  have Hv := Lib.hid hn.vwf.1
  have hv35 := Lib.hid (n.v.cells_length hn.vwf)
  have He := Lib.hid he
  have hb1 := Lib.hid (on_alloc (Below.refl _ w) (.cells (n.row a c).toArray 30))
  obtain ⟨m, hm⟩ : ∃ m, m = n.kids.length := ⟨_, rfl⟩
  have hme : m ≤ 9223372036854775807 := by omega
  rw [← hm] at f40 He
  have Hm := Lib.hid hm
  clear hblk fv fm he hkz
  by_cases hbad : n.v.kind < 1 ∨ 3 < n.v.kind ∨ (n.v.kind ≠ 1 ∧ 0 < m)
  · have He2 : Hid (ownErr n.v n.m m = 40) := by show _ = _; unfold ownErr; rw [if_pos hbad]
    have hc : n.v.kind < 1 ∨ 3 < n.v.kind ∨ (1 ≤ n.v.kind ∧ n.v.kind ≤ 3 ∧ n.v.kind ≠ 1 ∧ 0 < m) := by omega
    clear hbad hm
    rcases hc with h1 | h1 | ⟨h1, h2, h3, h4⟩
    all_goals
      try have e1 : (n.v.kind != 1) = true := by rw [bne_iff_ne]; omega
      try have q1 : 0 < (m : Int) := by omega
      go_enter Try.func62, Try.ntmps62
      go_wp2
      go_ret2
      exact ⟨by rw [← Hm.out, He2.out]; rfl, hb1.out⟩
  · have He2 : Hid (ownErr n.v n.m m = posErr n.v n.m) := by show _ = _; unfold ownErr; rw [if_neg hbad]
    have hk1 : 1 ≤ n.v.kind := by omega
    have hk3 : n.v.kind ≤ 3 := by omega
    have hc : n.v.kind = 1 ∨ (n.v.kind ≠ 1 ∧ m ≤ 0) := by omega
    obtain ⟨z, hz⟩ : ∃ z, z = posErr n.v n.m := ⟨_, rfl⟩
    have hz0 : (z != 0) = true := by rw [bne_iff_ne, hz, ← He2.out]; exact He.out
    have Hz := Lib.hid hz
    clear hbad hm hz
    rcases hc with h1 | ⟨h1, h2⟩
    all_goals
      have e1 : (n.v.kind != 1) = decide (n.v.kind ≠ 1) := by rw [bne, int_beq]; simp
      first | rw [decide_eq_true (by omega)] at e1 | rw [decide_eq_false (by omega)] at e1
      go_enter Try.func62, Try.ntmps62
      go_wp2_with (first | (refine wpList_load_midg (by rfl) 24 (.tmp 38) rfl w.heap.size 1 rfl n.v.cells _ Fv.out Try.underlying24 rfl (by rw [hv35.out]; kernel_rfl) ?_) | (refine wpList_load_midg (by rfl) 27 (.tmp 40) rfl w.heap.size 36 rfl (mcells n.m) _ Fm.out Try.underlying27 rfl (by kernel_rfl) ?_))
      refine (possible_any _ n.v n.m Hv.out).mono ?_
      rintro e w2 ⟨rfl, hb2⟩
      rw [← Hz.out]
      have Hb2 := Lib.hid (below_on hb1.out hb2)
      clear hb2
      go_wp2
      go_ret2
      exact ⟨by rw [← Hm.out, He2.out, ← Hz.out]; rfl, Hb2.out⟩
theorem under_size (p : ByteArray) (lv : Nat) (s : ByteArray) : (under p lv s).size = if lv = 0 then s.size else p.size + 1 + s.size := by
  unfold under
  split
  · rfl
  · rw [ByteArray.size_append, ByteArray.size_append]
    rfl
theorem chkKids_at (ks : List Nd) (k : Nat) (h : k < ks.length) (p : ByteArray) (lv : Nat) : chkKids (ks.drop k) (ahead ks k) p lv =
    if lv = 64 then (under p lv (ks[k]).name, 43)
    else if nameErr (ks[k]).name ≠ 0 then (under p lv (ks[k]).name, nameErr (ks[k]).name)
    else if rises (ahead ks k) (ks[k]).name = false then (under p lv (ks[k]).name, 42)
    else if (chk (ks[k]) (under p lv (ks[k]).name) (lv + 1)).2 ≠ 0 then chk (ks[k]) (under p lv (ks[k]).name) (lv + 1)
    else chkKids (ks.drop (k + 1)) (ahead ks (k + 1)) p lv := by
  rw [ahead_succ ks k h, drop_cons ks k h, chkKids]
theorem chkKids_deep (ks : List Nd) (k : Nat) (h : k < ks.length) (x : Nd) (hx : x = ks[k]) (p : ByteArray) : chkKids (ks.drop k) (ahead ks k) p 64 = (under p 64 x.name, 43) := by
  subst hx; rw [chkKids_at ks k h, if_pos rfl]
theorem chkKids_name (ks : List Nd) (k : Nat) (h : k < ks.length) (x : Nd) (hx : x = ks[k]) (p : ByteArray) (lv : Nat) (h64 : lv ≠ 64) (hne : nameErr x.name ≠ 0) : chkKids (ks.drop k) (ahead ks k) p lv = (under p lv x.name, nameErr x.name) := by
  subst hx; rw [chkKids_at ks k h, if_neg h64, if_pos hne]
theorem chkKids_order (ks : List Nd) (k : Nat) (h : k < ks.length) (x : Nd) (hx : x = ks[k]) (p : ByteArray) (lv : Nat) (h64 : lv ≠ 64) (hne : nameErr x.name = 0) (hr : rises (ahead ks k) x.name = false) : chkKids (ks.drop k) (ahead ks k) p lv = (under p lv x.name, 42) := by
  subst hx; rw [chkKids_at ks k h, if_neg h64, if_neg (by simp [hne]), if_pos hr]
theorem chkKids_bad (ks : List Nd) (k : Nat) (h : k < ks.length) (x : Nd) (hx : x = ks[k]) (p : ByteArray) (lv : Nat) (h64 : lv ≠ 64) (hne : nameErr x.name = 0) (hr : rises (ahead ks k) x.name = true) (he : (chk x (under p lv x.name) (lv + 1)).2 ≠ 0) : chkKids (ks.drop k) (ahead ks k) p lv = chk x (under p lv x.name) (lv + 1) := by
  subst hx; rw [chkKids_at ks k h, if_neg h64, if_neg (by simp [hne]), if_neg (by simp [hr]), if_pos he]
theorem chkKids_good (ks : List Nd) (k : Nat) (h : k < ks.length) (x : Nd) (hx : x = ks[k]) (p : ByteArray) (lv : Nat) (h64 : lv ≠ 64) (hne : nameErr x.name = 0) (hr : rises (ahead ks k) x.name = true) (he : (chk x (under p lv x.name) (lv + 1)).2 = 0) : chkKids (ks.drop k) (ahead ks k) p lv = chkKids (ks.drop (k + 1)) (ahead ks (k + 1)) p lv := by
  subst hx; rw [chkKids_at ks k h, if_neg h64, if_neg (by simp [hne]), if_neg (by simp [hr]), if_neg (by simp [he])]
theorem okName_size {s : ByteArray} (h : nameErr s = 0) : s.size ≤ 255 := by
  unfold nameErr at h
  split at h
  · rename_i hk
    unfold okName at hk
    simp only [Bool.and_eq_true, decide_eq_true_eq] at hk
    exact hk.1.1.1.2
  · cases h
set_option maxHeartbeats 4000000 in
set_option maxRecDepth 100000 in
theorem chk_nil (F : Nat → Prop) (d : Nat) (w : World) (n : Nd) (a : Option Addr) (c : Nat) (p : ByteArray) (lv : Nat) (hn : NodeIn w F d n a) (hlv : lv ≤ 64) (he : ¬ ownErr n.v n.m n.kids.length ≠ 0) (hnil : n.kids = []) :
    Calls Try.prog 62 #[.agg (n.row a c).toArray, .string p, .int .i64 (lv : Nat)] w fun e w' => e = .returned (.tuple #[.string (chk n p lv).1, .int .i64 (chk n p lv).2]) ∧ Below w.heap.size w w' := by
  have hchk : chk n p lv = chkKids n.kids none p lv := by rw [chk_eq, if_neg he]
  have hblk := heap_alloc_new w (.cells (n.row a c).toArray 30)
  obtain ⟨f0, fv, fm, f40⟩ := nrow_at (o := 0) hn.vwf (rangeAt_row hblk)
  obtain ⟨g0, g1, g2, _⟩ := vl_at fv
  simp only [Nat.zero_add] at f0 f40 fv fm g0 g1 g2
  have hkz := hn.ksz
  have Fv := Lib.hid fv
  have Fm := Lib.hid fm
  have Hv := Lib.hid hn.vwf.1
  have hv35 := Lib.hid (n.v.cells_length hn.vwf)
  have hb1 := Lib.hid (on_alloc (Below.refl _ w) (.cells (n.row a c).toArray 30))
  have hend := Lib.hid (show chkKids n.kids none p lv = (⟨#[]⟩, 0) by rw [hnil]; rfl)
  obtain ⟨m, hm⟩ : ∃ m, m = n.kids.length := ⟨_, rfl⟩
  have hm0 : m = 0 := by rw [hm, hnil]; rfl
  clear hnil
  have hme : m ≤ 9223372036854775807 := by omega
  rw [← hm] at f40 he
  have hpos : posErr n.v n.m = 0 ∧ 1 ≤ n.v.kind ∧ n.v.kind ≤ 3 ∧ (n.v.kind = 1 ∨ (n.v.kind ≠ 1 ∧ m ≤ 0)) := by
    have h : ownErr n.v n.m m = 0 := Decidable.not_not.1 he
    unfold ownErr at h
    split at h
    · cases h
    · exact ⟨h, by omega, by omega, by omega⟩
  obtain ⟨hpz, hk1, hk3, hc⟩ := hpos
  have Hn := Lib.hid hn
  have Hm := Lib.hid hm
  have Hpz := Lib.hid hpz
  have Hchk := Lib.hid hchk
  have Hblk := Lib.hid hblk
  have hlv0 : (lv : Int) ≤ 64 := by omega
  clear fv fm hblk hn hm hpz hchk he hkz
  subst hm0
  have hc2 : n.v.kind = 1 ∨ n.v.kind ≠ 1 := by omega
  clear hc
  rcases hc2 with h1 | h1
  all_goals
    have e1 : (n.v.kind != 1) = decide (n.v.kind ≠ 1) := by rw [bne, int_beq]; simp
    first | rw [decide_eq_true h1] at e1 | rw [decide_eq_false (not_not_intro h1)] at e1
    clear h1
    go_enter Try.func62, Try.ntmps62
    go_wp2_with (first | (refine wpList_load_midg (by rfl) 24 (.tmp 38) rfl w.heap.size 1 rfl n.v.cells _ Fv.out Try.underlying24 rfl (by rw [hv35.out]; kernel_rfl) ?_) | (refine wpList_load_midg (by rfl) 27 (.tmp 40) rfl w.heap.size 36 rfl (mcells n.m) _ Fm.out Try.underlying27 rfl (by kernel_rfl) ?_))
    refine (possible_any _ n.v n.m Hv.out).mono ?_
    rintro e w2 ⟨rfl, hb2⟩
    rw [Hpz.out]
    have f40' := (hb2.cell (p := ⟨w.heap.size, 40, none⟩) (by simp)).trans f40
    have hblk2 := (hb2.block w.heap.size (by simp)).trans Hblk.out
    obtain ⟨B, hB⟩ : ∃ B, B = w.heap.size := ⟨_, rfl⟩
    have Hb2 := Lib.hid (below_on hb1.out hb2)
    rw [← hB] at f40' hblk2 ⊢
    have HB := Lib.hid hB
    have Hbk := Lib.hid hblk2
    clear hb2 f0 f40 g0 g1 g2 hb1 Fv Fm hB hblk2
    go_wp2_with fail
    go_loopw [50] (fun i wr => i = .int .i64 0 ∧ Below w.heap.size w wr) (fun _ _ => 0)
    case atStart => exact ⟨rfl, Hb2.out⟩
    case round =>
      obtain ⟨rfl, hbe⟩ := hrel
      have Hbe := Lib.hid hbe
      clear hbe f40'
      go_wp2
      go_ret2
      exact ⟨by rw [Hchk.out, hend.out]; rfl, Hbe.out⟩
end Go.Proofs.Ythnbinlllmkabaa
