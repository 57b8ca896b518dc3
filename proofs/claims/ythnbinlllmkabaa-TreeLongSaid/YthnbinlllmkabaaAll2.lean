/- The reference's All, Names, Count; the tree's Value, Count, and paths. -/
import Derived.Test.YthnbinlllmkabaaAll
import Derived.Test.YthnbinlllmkabaaChk
namespace Go.Proofs.Ythnbinlllmkabaa
open Go.RowKit
set_option linter.unusedVariables false
set_option linter.unusedSimpArgs false

mutual
/-- Each thing is one. -/
def Nd.kinded : Nd → Prop | .mk _ v _ ks => v.kind ≠ 0 ∧ kindedAll ks
def kindedAll : List Nd → Prop | [] => True | k :: ks => k.kinded ∧ kindedAll ks
end
theorem kinded_eq (n : Nd) : n.kinded = (n.v.kind ≠ 0 ∧ kindedAll n.kids) := by cases n; rfl
theorem kindedAll_get : ∀ (ks : List Nd), kindedAll ks → ∀ i (h : i < ks.length), (ks[i]).kinded
  | [], _, i, h => absurd h (Nat.not_lt_zero _)
  | k :: ks, hk, 0, _ => hk.1
  | k :: ks, hk, i + 1, h => kindedAll_get ks hk.2 i (by simpa using h)
mutual
theorem kinded_of : ∀ (n : Nd) (p : ByteArray) (lv : Nat), (chk n p lv).2 = 0 → n.kinded
  | .mk _ v m ks, p, lv, h => by
    rw [chk] at h
    by_cases ho : ownErr v m ks.length ≠ 0
    · rw [if_pos ho] at h; exact absurd h ho
    · rw [if_neg ho] at h
      refine ⟨fun hk => ho ?_, kinded_ofKids ks none p lv h⟩
      unfold ownErr
      rw [if_pos (.inl (by omega))]
      decide
theorem kinded_ofKids : ∀ (ks : List Nd) (prev : Option ByteArray) (p : ByteArray) (lv : Nat), (chkKids ks prev p lv).2 = 0 → kindedAll ks
  | [], _, _, _, _ => trivial
  | k :: ks, prev, p, lv, h => by
    rw [chkKids] at h
    by_cases h1 : lv = 64
    · rw [if_pos h1] at h; simp at h
    · rw [if_neg h1] at h
      by_cases h2 : nameErr k.name ≠ 0
      · rw [if_pos h2] at h; exact absurd h h2
      · rw [if_neg h2] at h
        by_cases h3 : rises prev k.name = false
        · rw [if_pos h3] at h; simp at h
        · rw [if_neg h3] at h
          by_cases h4 : (chk k (under p lv k.name) (lv + 1)).2 ≠ 0
          · rw [if_pos h4] at h; exact absurd h h4
          · rw [if_neg h4] at h
            exact ⟨kinded_of k (under p lv k.name) (lv + 1) (Decidable.not_not.1 h4), kinded_ofKids ks _ p lv h⟩
end
set_option maxHeartbeats 2000000 in
set_option maxRecDepth 100000 in
theorem refAll_ok (F : Nat → Prop) (d : Nat) (w : World) (n : Nd) (a : Option Addr) (c : Nat) (hn : NodeIn w F d n a) (hF : ∀ b, F b → b < w.heap.size) (hpt : n.parts ≤ 1000000) :
    Calls Try.prog 21 #[.agg (n.row a c).toArray] w fun e w' => ∃ (a' : Option Addr) (c' : Nat), e = .returned (.slice a' (allOf n ⟨#[]⟩).length c') ∧ Own w' 78 40 (.slice a' (allOf n ⟨#[]⟩).length c') (allOf n ⟨#[]⟩).length (srows (allOf n ⟨#[]⟩)) ∧ (∀ b, (Value.slice a' (allOf n ⟨#[]⟩).length c').ownBlock = some b → w.heap.size ≤ b) ∧ Below w.heap.size w w' := by
  have Hr := Lib.hid (rangeAt_row (heap_alloc_new w (.cells (n.row a c).toArray 30)))
  have hvwf := Lib.hid (row_len (a := a) (c := c) hn.vwf)
  have hb1 := on_alloc (Below.refl _ w) (.cells (n.row a c).toArray 30)
  have H := Lib.hid (all_ok F d (w.alloc (.cells (n.row a c).toArray 30)) n ⟨#[]⟩ a c (hn.below hb1) (fun b hb => Nat.lt_of_lt_of_le (hF b hb) hb1.size) hpt (by have := parts_eq n; have e0 : (⟨#[]⟩ : ByteArray).size = 0 := rfl; omega))
  have Hb1 := Lib.hid hb1
  clear hn hpt hb1
  go_enter Try.func21, Try.ntmps21
  go_wp2_with (refine wpList_load_midg (by rfl) 30 (.tmp 1) rfl w.heap.size 0 rfl (n.row a c) _ Hr.out Try.underlying30 rfl (by rw [hvwf.out]; kernel_rfl) ?_)
  refine H.out.mono ?_
  rintro e w' ⟨a', c', rfl, h1, h2, h3⟩
  have H1 := Lib.hid (And.intro h1 (And.intro h2 h3))
  clear h1 h2 h3
  go_wp2
  go_ret
  exact ⟨a', c', rfl, H1.out.1, fun b hb => Nat.le_trans Hb1.out.size (H1.out.2.1 b hb), Hb1.out.trans (H1.out.2.2.mono Hb1.out.size)⟩
set_option maxHeartbeats 2000000 in
set_option maxRecDepth 100000 in
theorem refNames_ok (F : Nat → Prop) (d : Nat) (w : World) (n : Nd) (a : Option Addr) (c : Nat) (hn : NodeIn w F d n a) (hpt : n.parts ≤ 1000000) :
    Calls Try.prog 22 #[.agg (n.row a c).toArray] w fun e w' => ∃ (a' : Option Addr) (c' : Nat), e = .returned (.slice a' n.kids.length c') ∧ Own w' 9 1 (.slice a' n.kids.length c') n.kids.length (strs (n.kids.map Nd.name)) ∧ (∀ b, (Value.slice a' n.kids.length c').ownBlock = some b → w.heap.size ≤ b) ∧ Below w.heap.size w w' := by
  obtain ⟨i0, hi, hz0, hz1, hz2⟩ := info_parts info_str
  have hblk := heap_alloc_new w (.cells (n.row a c).toArray 30)
  have hbl := on_alloc (Below.refl _ w) (.cells (n.row a c).toArray 30)
  obtain ⟨m, hm⟩ : ∃ m, m = n.kids.length := ⟨_, rfl⟩
  have hme : m ≤ 1000000 := by have h1 := partsAll_len n.kids; have := parts_eq n; omega
  have Hn := Lib.hid hn
  have Hm := Lib.hid hm
  go_enter Try.func22, Try.ntmps22
  obtain ⟨_, _, _, f40⟩ := nrow_at (o := 0) hn.vwf (rangeAt_row hblk)
  simp only [Nat.zero_add] at f40
  rw [← hm] at f40
  clear hn hm
  go_wp2_with fail
  obtain ⟨B, hB⟩ : ∃ B, B = w.heap.size := ⟨_, rfl⟩
  generalize w.alloc (.cells (n.row a c).toArray 30) = w2 at hblk hbl f40 ⊢
  rw [← hB] at hblk
  rw [← hB]
  have hBw : B < w2.heap.size := lt_heap hblk
  have Hblk := Lib.hid hblk
  have Hbl := Lib.hid hbl
  clear hblk hbl hB f40
  go_loopw [3, 4] (fun v i wr => ∃ (k : Nat) (a3 : Option Addr) (c3 : Nat), k ≤ m ∧ i = .int .i64 k ∧ v = .slice a3 k c3 ∧ Own wr 9 1 (.slice a3 k c3) k (strs ((n.kids.take k).map Nd.name)) ∧ (∀ b, (Value.slice a3 k c3).ownBlock = some b → w2.heap.size ≤ b) ∧ Below w2.heap.size w2 wr) (fun _ i _ => m - (intOf i).toNat)
  case atStart => exact ⟨0, none, 0, Nat.zero_le _, rfl, rfl, Own.nil _ _ _, fun b hb => by simp [Value.ownBlock] at hb, Below.refl _ _⟩
  case round =>
    obtain ⟨k, a3, c3, hk, rfl, rfl, hown, hn3, hbe⟩ := hrel
    obtain ⟨L, hL⟩ : ∃ L, L = strs ((n.kids.take k).map Nd.name) := ⟨_, rfl⟩
    rw [← hL] at hown
    have HL := Lib.hid hL
    have Hown := Lib.hid hown
    have Hn3 := Lib.hid hn3
    have Hbe := Lib.hid hbe
    obtain ⟨_, _, _, f40⟩ := nrow_at (o := 0) Hn.out.vwf (rangeAt_row ((hbe.block B hBw).trans Hblk.out))
    simp only [Nat.zero_add] at f40
    rw [← Hm.out] at f40
    clear hL hown hn3 hbe
    by_cases hlt : k < m
    · have hd : ∃ e, d = e + 1 := by
        cases d with
        | zero => exfalso; have h0 : n.kids = [] := Hn.out.kids; have := Hm.out; rw [h0] at this; simp at this; omega
        | succ e => exact ⟨e, rfl⟩
      obtain ⟨d', hd⟩ := hd
      have hkn := Hn.out.kids
      rw [hd] at hkn
      have hkm : k < n.kids.length := by rw [← Hm.out]; exact hlt
      obtain ⟨g, off, a', c', rfl, hF, hr, hni⟩ := ((hkn.below Hbl.out).below Hbe.out).at (i := k) hkm
      obtain ⟨x, hx⟩ : ∃ x, x = n.kids[k]'hkm := ⟨_, rfl⟩
      rw [← hx] at hr hni
      have c0 : wr.cell? ⟨g, off + k * 41, none⟩ = some (.string x.name) := hr 0 _ rfl
      have i1 : (0 : Int) ≤ (k : Int) := by omega
      have i2 : (k : Int) < (m : Int) := by omega
      have et := Lib.hid (show strs ((n.kids.take (k + 1)).map Nd.name) = L ++ [.string x.name] by rw [List.take_succ_eq_append_getElem hkm, ← hx, HL.out]; simp [strs])
      clear hr hni hx hkn hd
      go_wp2_with (at_builtin; refine wpList_append_any rfl _ _ 71 rfl 9 i0 (.string ⟨#[]⟩) 1 16 Try.underlying71 hi hz0 hz1 hz2 rfl (by decide) (.slice a3 k c3) k L (.slice (some ⟨wr.heap.size, 0, none⟩) 1 1) 1 [.string x.name] rfl rfl (Hown.out.kept ((Upd.refl (fun _ => False) wr).alloc _) (fun _ _ => id)) (Sl.made _ _ _ _ _ _ _ _ rfl rfl (by omega)) (by simp [Value.oneCell']) (by omega) (by omega) ?_)
      intro a7 c7 w7 hown7 hgr7 hb7
      have hws := Hbe.out.size
      have Hbe7 := Lib.hid ((Hbe.out.alloc hws _).grown hgr7 (by simp; omega) (fun b hb => Hn3.out b hb))
      have Hn7 := Lib.hid (show ∀ b, (Value.slice a7 (k + 1) c7).ownBlock = some b → w2.heap.size ≤ b from fun b hb => by
        by_cases h : (Value.slice a3 k c3).ownBlock = some b
        · exact Hn3.out b h
        · have h1 := hb7 b h hb
          (try simp at h1)
          omega)
      rw [← et.out] at hown7
      have Hown7 := Lib.hid hown7
      clear hown7 hgr7 hb7
      go_wp2
      go_roundw
      case rel => exact ⟨k + 1, a7, c7, hlt, by go_num, rfl, Hown7.out, Hn7.out, Hbe7.out⟩
      case measure => simp [intOf]; omega
    · obtain rfl : k = m := by omega
      clear hlt
      have hke : L = strs (n.kids.map Nd.name) := by rw [HL.out, List.take_of_length_le (by rw [← Hm.out]; exact Nat.le_refl _)]
      have Hke := Lib.hid hke
      clear hke
      go_wp2
      go_ret
      refine ⟨a3, c3, by rw [← Hm.out]; rfl, by rw [← Hke.out, ← Hm.out]; exact Hown.out, fun b hb => ?_, Hbl.out.trans (Hbe.out.mono Hbl.out.size)⟩
      rw [← Hm.out] at hb
      have h1 := Hn3.out b hb
      have h2 := Hbl.out.size
      omega
def CountOk (F : Nat → Prop) (d : Nat) : Prop := ∀ (w : World) (n : Nd) (a : Option Addr) (c : Nat), NodeIn w F d n a → n.parts ≤ 1000000 → n.kinded →
  Calls Try.prog 30 #[.agg (n.row a c).toArray] w fun e w' => e = .returned (.int .i64 (n.cnt : Nat)) ∧ Below w.heap.size w w'
set_option maxHeartbeats 2000000 in
set_option maxRecDepth 100000 in
theorem count_step (F : Nat → Prop) (d : Nat) (ih : ∀ e, d = e + 1 → CountOk F e) : CountOk F d := by
  intro w n a c hn hpt hkd
  have Ih := Lib.hid ih
  have hblk := heap_alloc_new w (.cells (n.row a c).toArray 30)
  have hbl := on_alloc (Below.refl _ w) (.cells (n.row a c).toArray 30)
  obtain ⟨m, hm⟩ : ∃ m, m = n.kids.length := ⟨_, rfl⟩
  have hme : m ≤ 1000000 := by have h1 := partsAll_len n.kids; have := parts_eq n; omega
  have Hn := Lib.hid hn
  have Hm := Lib.hid hm
  have Hpt := Lib.hid (show partsAll n.kids ≤ 1000000 by have := parts_eq n; omega)
  rw [kinded_eq] at hkd
  have hk0 := beq_f hkd.1
  have Hkd := Lib.hid hkd.2
  go_enter Try.func30, Try.ntmps30
  obtain ⟨_, fv, _, f40⟩ := nrow_at (o := 0) hn.vwf (rangeAt_row hblk)
  obtain ⟨g0, _, _, _⟩ := vl_at fv
  simp only [Nat.zero_add] at f40 g0
  rw [← hm] at f40
  clear hn hm hpt hkd fv ih
  go_wp2_with fail
  obtain ⟨B, hB⟩ : ∃ B, B = w.heap.size := ⟨_, rfl⟩
  generalize w.alloc (.cells (n.row a c).toArray 30) = w2 at hblk hbl f40 g0 ⊢
  rw [← hB] at hblk
  rw [← hB]
  have hBw : B < w2.heap.size := lt_heap hblk
  have Hblk := Lib.hid hblk
  have Hbl := Lib.hid hbl
  clear hblk hbl hB f40 g0
  go_loopw [3, 4] (fun v i wr => ∃ k : Nat, k ≤ m ∧ i = .int .i64 k ∧ v = .int .i64 ((1 + cntAll (n.kids.take k) : Nat) : Int) ∧ Below w2.heap.size w2 wr) (fun _ i _ => m - (intOf i).toNat)
  case atStart => exact ⟨0, Nat.zero_le _, rfl, rfl, Below.refl _ _⟩
  case round =>
    obtain ⟨k, hk, rfl, rfl, hbe⟩ := hrel
    obtain ⟨s, hs⟩ : ∃ s, s = 1 + cntAll (n.kids.take k) := ⟨_, rfl⟩
    have hs1 : s ≤ 1000001 := by have h1 := cntAll_take_le n.kids k; have h2 := cntAll_le n.kids; have := Hpt.out; omega
    rw [← hs]
    have Hs := Lib.hid hs
    have Hbe := Lib.hid hbe
    obtain ⟨_, _, _, f40⟩ := nrow_at (o := 0) Hn.out.vwf (rangeAt_row ((hbe.block B hBw).trans Hblk.out))
    simp only [Nat.zero_add] at f40
    rw [← Hm.out] at f40
    clear hs hbe
    by_cases hlt : k < m
    · have hd : ∃ e, d = e + 1 := by
        cases d with
        | zero => exfalso; have h0 : n.kids = [] := Hn.out.kids; have := Hm.out; rw [h0] at this; simp at this; omega
        | succ e => exact ⟨e, rfl⟩
      obtain ⟨d', hd⟩ := hd
      have ihe := Ih.out d' hd
      have hkn := Hn.out.kids
      rw [hd] at hkn
      have hkm : k < n.kids.length := by rw [← Hm.out]; exact hlt
      obtain ⟨g, off, a', c', rfl, hF, hr, hni⟩ := ((hkn.below Hbl.out).below Hbe.out).at (i := k) hkm
      obtain ⟨x, hx⟩ : ∃ x, x = n.kids[k]'hkm := ⟨_, rfl⟩
      rw [← hx] at hr hni
      have Hr := Lib.hid (And.intro hr hni)
      have Ihe := Lib.hid ihe
      have hvwf := Lib.hid (row_len (a := a') (c := c') hni.vwf)
      have hxp := partsAll_get (ks := n.kids) hkm
      rw [← hx] at hxp
      have Hxp := Lib.hid (show x.parts ≤ 1000000 by have := Hpt.out; omega)
      have Hxk := Lib.hid (show x.kinded by rw [hx]; exact kindedAll_get _ Hkd.out k hkm)
      have hxc : x.cnt ≤ 1000000 := Nat.le_trans (cnt_le_parts x) Hxp.out
      have et := Lib.hid (show 1 + cntAll (n.kids.take (k + 1)) = s + x.cnt by rw [cntAll_take n.kids k hkm, Hs.out, ← hx]; omega)
      have i1 : (0 : Int) ≤ (k : Int) := by omega
      have i2 : (k : Int) < (m : Int) := by omega
      clear hr hni hx hkn hd ihe hxp
      go_wp2_with (refine wpList_load_midg (by rfl) 30 (.tmp 20) rfl g (off + k * 41) rfl (x.row a' c') _ Hr.out.1 Try.underlying30 rfl (by rw [hvwf.out]; kernel_rfl) ?_)
      refine (Ihe.out wr x a' c' Hr.out.2 Hxp.out Hxk.out).mono ?_
      rintro e w5 ⟨rfl, hb5⟩
      obtain ⟨z, hz⟩ : ∃ z, z = x.cnt := ⟨_, rfl⟩
      rw [← hz] at hxc et
      rw [← hz]
      have Hbe5 := Lib.hid (below_on Hbe.out hb5)
      clear hb5 hz
      go_wp2
      go_roundw
      case rel => exact ⟨k + 1, hlt, by go_num, by rw [et.out]; go_num, Hbe5.out⟩
      case measure => simp [intOf]; omega
    · obtain rfl : k = m := by omega
      clear hlt
      have hke : s = n.cnt := by rw [Hs.out, cnt_eq, List.take_of_length_le (by rw [← Hm.out]; exact Nat.le_refl _)]
      have Hke := Lib.hid hke
      clear hke
      go_wp2
      go_ret
      exact ⟨by rw [← Hke.out]; rfl, Hbl.out.trans (Hbe.out.mono Hbl.out.size)⟩
theorem refCount_ok (F : Nat → Prop) : ∀ d : Nat, CountOk F d
  | 0 => count_step F 0 (fun e he => by omega)
  | d + 1 => count_step F (d + 1) (fun e he => (Nat.succ.inj he) ▸ refCount_ok F d)
set_option maxRecDepth 100000 in
theorem treeCount_ok (F : Nat → Prop) (d : Nat) (w : World) (p : Nat) (n : Nd) (ht : TreeAt w F d p n) :
    Calls Try.prog 29 #[.pointer (some ⟨p, 0, none⟩)] w fun e w' => e = .returned (.int .i64 (n.cnt : Nat)) ∧ w' = w := by
  have f41 := ht.cell.1
  clear ht
  go_enter Try.func29, Try.ntmps29
  go_wp2
  go_ret
  exact ⟨rfl, rfl⟩
theorem info_valueZ : (Try.prog.info? 24).map (·.size) = some 35 := by kernel_rfl
set_option maxRecDepth 100000 in
theorem treeValue_ok (F : Nat → Prop) (d : Nat) (w : World) (p : Nat) (n : Nd) (ht : TreeAt w F d p n) :
    Calls Try.prog 28 #[.pointer (some ⟨p, 0, none⟩)] w fun e w' => e = .returned (.agg n.v.cells.toArray) ∧ Below w.heap.size w w' := by
  cases d with
  | zero => exact ht.elim
  | succ d =>
  obtain ⟨h1, h2, h3, an, ak, cn, ck, ps, h4, _⟩ := ht
  have hvl := Lib.hid (n.v.cells_length h2)
  have hvs := Lib.hid (show n.v.cells.toArray.size = 35 by rw [List.size_toArray]; exact n.v.cells_length h2)
  have Hv := Lib.hid (show ∀ o, (w.alloc o).rangeAt p 0 n.v.cells from fun o => (trow_at (o := 0) h2 (rangeAt_row ((Below.heap_alloc w o p (lt_heap h4)).trans h4))).1)
  have hone := Lib.hid (show n.v.cells.toArray.all (·.oneCell') = true from all_one n.v.cells_one)
  clear h1 h2 h3 h4
  go_enter Try.func28, Try.ntmps28
  go_wp2_with (first | (refine wpList_load_midg (by rfl) 24 (.tmp 5) rfl p 0 rfl n.v.cells _ (Hv.out _) Try.underlying24 rfl (by rw [hvl.out]; kernel_rfl) ?_) | (refine wpList_store_fresh rfl 24 _ _ rfl n.v.cells.toArray rfl rfl (by rw [hvs.out]; kernel_rfl) (by rw [hvs.out]; rfl) hone.out ?_))
  intro w3 hs3 hr3 hb3
  have Hb3 := Lib.hid hb3
  have Hr3 := Lib.hid hr3
  clear hb3 hr3
  go_wp2_with fail
  exact bodyPost_ret (results_cell_row (P := Try.prog) Try.results28 _ _ w.heap.size 24 n.v.cells.toArray (0, 0) _ rfl Hr3.out Try.underlying24 rfl (by rw [hvs.out]; kernel_rfl)) rfl ⟨rfl, Hb3.out⟩
set_option maxRecDepth 100000 in
theorem below_ok (w : World) (p s : ByteArray) (hp : p.size ≤ 2000000) (hs : s.size ≤ 2000000) :
    Calls Try.prog 108 #[.string p, .string s] w fun e w' => e = .returned (.string (pathOf p s)) ∧ w' = w := by
  by_cases h : p = ⟨#[]⟩
  · have hu : pathOf p s = s := by rw [pathOf, if_pos h]
    rw [hu]
    clear hu
    subst h
    go_enter Try.func108, Try.ntmps108
    go_wp2
    go_ret
    exact ⟨rfl, rfl⟩
  · have hu : pathOf p s = p ++ ⟨#[47]⟩ ++ s := by rw [pathOf, if_neg h]
    rw [hu]
    clear hu
    have hpe := names_ne h
    have hpe2 : (p.toList == ([] : List UInt8)) = false := by
      have e : (⟨#[]⟩ : ByteArray).toList = [] := by rw [ByteArray.toList_eq]
      rw [← e]
      exact names_ne h
    go_enter Try.func108, Try.ntmps108
    go_wp2
    go_ret
    exact ⟨rfl, rfl⟩
end Go.Proofs.Ythnbinlllmkabaa
