/- What TreePuts calls: slices.Equal, path.Under, equal, elsewhere. -/
import Derived.Test.YthnbinlllmkabaaSpotP
import Derived.Test.YthnbinlllmkabaaWalk
import Derived.Test.YthnbinlllmkabaaNode
import Derived.Test.YthnbinlllmkabaaTNode
import Derived.Test.YthnbinlllmkabaaSame
namespace Go.Proofs.Ythnbinlllmkabaa
open Go.RowKit Go.Shelf
set_option linter.unusedVariables false
set_option linter.unusedSimpArgs false

set_option maxHeartbeats 2000000 in
set_option maxRecDepth 100000 in
theorem sliceEq_any (w : World) (a b : Option Addr) (c d n m : Nat) (k l : List ByteArray) (hk : Sl w 1 (.slice a n c) n (strs k)) (hl : Sl w 1 (.slice b m d) m (strs l)) (hn : k.length = n) (hm : l.length = m) :
    Calls Try.prog 93 #[.slice a n c, .slice b m d] w fun e w' => e = .returned (.bool (decide (k = l))) ∧ Below w.heap.size w w' := by
  have hkm : n ≤ 9223372036854775807 := by obtain ⟨_, _, _, _, h, _⟩ := hk; exact h
  have hlm : m ≤ 9223372036854775807 := by obtain ⟨_, _, _, _, h, _⟩ := hl; exact h
  have Hk := Lib.hid hk
  have Hl := Lib.hid hl
  clear hk hl
  by_cases hnm : n = m
  · subst hnm
    have Hn := Lib.hid hn
    have Hm := Lib.hid hm
    clear hn hm
    go_enter Try.func93, Try.ntmps93
    go_wp2_with fail
    go_loopw [13] (fun i wr => ∃ j : Nat, j ≤ n ∧ i = .int .i64 j ∧ k.take j = l.take j ∧ Below w.heap.size w wr) (fun i _ => n - (intOf i).toNat)
    case atStart => exact ⟨0, Nat.zero_le _, rfl, rfl, Below.refl _ _⟩
    case round =>
      obtain ⟨j, hj, rfl, he, hbe⟩ := hrel
      have He := Lib.hid he
      have Hbe := Lib.hid hbe
      clear he hbe
      by_cases hlt : j < n
      · have hjk : j < k.length := by rw [Hn.out]; exact hlt
        have hjl : j < l.length := by rw [Hm.out]; exact hlt
        obtain ⟨x, hx⟩ : ∃ x, x = k[j]'hjk := ⟨_, rfl⟩
        obtain ⟨y, hy⟩ : ∃ y, y = l[j]'hjl := ⟨_, rfl⟩
        obtain ⟨p0, o0, rfl, _, f0⟩ := (Hk.out.below Hbe.out).open_ (by simp [strs]; omega)
        obtain ⟨p1, o1, rfl, _, f1⟩ := (Hl.out.below Hbe.out).open_ (by simp [strs]; omega)
        have f0 := f0 j (.string x) (by simp [strs, hx, List.getElem?_eq_getElem hjk])
        have f1 := f1 j (.string y) (by simp [strs, hy, List.getElem?_eq_getElem hjl])
        have T1 := Lib.hid (show k.take (j + 1) = k.take j ++ [x] by rw [hx]; exact List.take_succ_eq_append_getElem hjk)
        have T2 := Lib.hid (show l.take (j + 1) = l.take j ++ [y] by rw [hy]; exact List.take_succ_eq_append_getElem hjl)
        have Hxy := Lib.hid (show x ≠ y → k ≠ l from fun hne e => hne (by subst e; rw [hx, hy]))
        have r0 : (0 : Int) ≤ (j : Int) := by omega
        have r1 : (j : Int) < (n : Int) := by omega
        clear hx hy hjk hjl
        by_cases hxy : x = y
        · subst hxy
          go_wp2_with fail
          go_quiet (fail)
          go_wp2
          go_roundw
          case rel =>
            exact ⟨j + 1, hlt, by go_num, by rw [T1.out, T2.out, He.out], Hbe.out.upd (Nat.le_refl _) ((Upd.refl (fun _ => False) _).drewN nq) (fun _ h => h.elim)⟩
          case measure => simp [intOf]; omega
        · have hne : (x.toList == y.toList) = false := by rw [beq_eq_false_iff_ne]; exact fun e => hxy (toList_inj e)
          have hne2 : (x.toList != y.toList) = true := by rw [bne, hne]; rfl
          have Hd := Lib.hid (show decide (k = l) = false from decide_eq_false (Hxy.out hxy))
          clear hxy
          go_wp2_with fail
          go_quiet (fail)
          go_wp2
          go_ret
          exact ⟨by rw [Hd.out]; rfl, Hbe.out.upd (Nat.le_refl _) ((Upd.refl (fun _ => False) _).drewN nq) (fun _ h => h.elim)⟩
      · have hkl : k = l := by
          have h := He.out
          rw [List.take_of_length_le (by rw [Hn.out]; omega), List.take_of_length_le (by rw [Hm.out]; omega)] at h
          exact h
        have Hkl := Lib.hid (show decide (k = l) = true from decide_eq_true hkl)
        clear hkl
        go_wp2
        go_ret
        exact ⟨by rw [Hkl.out]; rfl, Hbe.out⟩
  · have hne : ((n : Int) != (m : Int)) = true := by rw [bne_iff_ne]; omega
    have Hne := Lib.hid (show decide (k = l) = false from decide_eq_false (by rintro rfl; exact hnm (hn.symm.trans hm)))
    clear hn hm
    go_enter Try.func93, Try.ntmps93
    go_wp2
    go_ret
    exact ⟨by rw [Hne.out]; rfl, Below.refl _ _⟩
/-- Does a path lie at or below another one? -/
def underB (q p : ByteArray) : Bool := decide ((pieces q).take (pieces p).length = pieces p)
theorem underB_iff (q p : ByteArray) : underB q p = true ↔ pieces p <+: pieces q := by
  unfold underB
  rw [decide_eq_true_eq, List.prefix_iff_eq_take]
  exact ⟨fun h => h.symm, fun h => h.symm⟩
set_option maxHeartbeats 2000000 in
set_option maxRecDepth 100000 in
theorem under_any (w : World) (q p : ByteArray) (hq : q.size ≤ 1000000000) (hp : p.size ≤ 1000000000) :
    Calls Try.prog 55 #[.string q, .string p] w fun e w' => e = .returned (.bool (underB q p)) ∧ Below w.heap.size w w' := by
  go_enter Try.func55, Try.ntmps55
  go_wp2_with fail
  refine (pieces_any w q hq).mono ?_
  rintro e w1 ⟨n, a, c, rfl, hn, hown, hb1, hfr⟩
  have Hn := Lib.hid hn
  have Hown := Lib.hid hown
  have Hb1 := Lib.hid hb1
  have hnc := hown.cap_le
  have hn63 := hown.2.1
  clear hn hown hb1 hfr
  go_wp2_with fail
  refine (pieces_any w1 p hp).mono ?_
  rintro e w2 ⟨m, b, d, rfl, hm, hown2, hb2, hfr2⟩
  have Hm := Lib.hid hm
  have Hown2 := Lib.hid hown2
  have Hown1 := Lib.hid (Hown.out.kept (Upd.below hb2 fun _ => False) (fun _ _ => id))
  have Hb2 := Lib.hid (below_on Hb1.out hb2)
  have hm63 := hown2.2.1
  clear hm hown2 hb2 hfr2
  by_cases hmn : m ≤ n
  · have r1 : (m : Int) ≤ (n : Int) := by omega
    have r2 : (m : Int) ≤ (c : Int) := by omega
    have r3 : (0 : Int) ≤ (m : Int) := by omega
    have r4 : ¬ (n : Int) < (m : Int) := by omega
    obtain ⟨ab, _, _, hcb, hsb, _⟩ := Hown1.out.sl.cut Try.underlying71 (fun _ => by kernel_rfl) 0 m (Nat.zero_le _) hmn hnc
    have q1 : ∀ w, (Instr.sliceAt 71 (.slice a n c) none (some (.int .i64 m)) none).run Try.prog w = .ok (.slice ab m c) w := fun w => by
      have := hcb w m rfl rfl
      simpa using this
    have Hsb := Lib.hid (show Sl w2 1 (.slice ab m c) m (strs ((pieces q).take m)) by
      have h := hsb
      simp only [Nat.sub_zero, Nat.mul_one, Nat.zero_mul, List.drop_zero] at h
      have e : (strs (pieces q)).take m = strs ((pieces q).take m) := by simp [strs, List.map_take]
      rw [e] at h
      exact h)
    have Heq := Lib.hid (sliceEq_any w2 ab b c d m m ((pieces q).take m) (pieces p) Hsb.out Hown2.out.sl (by rw [List.length_take, Hn.out]; omega) Hm.out)
    have He := Lib.hid (show underB q p = decide ((pieces q).take m = pieces p) by unfold underB; rw [Hm.out])
    clear hcb hsb
    go_wp2_with fail
    refine Heq.out.mono ?_
    rintro e w3 ⟨rfl, hb3⟩
    have Hb3 := Lib.hid (below_on Hb2.out hb3)
    clear hb3 Heq
    go_wp2
    go_ret
    exact ⟨by rw [He.out]; rfl, Hb3.out⟩
  · have r4 : (n : Int) < (m : Int) := by omega
    have He := Lib.hid (show underB q p = false by
      unfold underB
      refine decide_eq_false fun h => ?_
      have := congrArg List.length h
      rw [List.length_take, Hm.out, Hn.out] at this
      omega)
    go_wp2
    go_ret
    exact ⟨by rw [He.out]; first | rfl | simp, Hb2.out⟩
theorem alike_names (n u : Nd) (s t : ByteArray) : (n.named s).alike (u.named t) = n.alike u := by cases n; cases u; rfl
set_option maxHeartbeats 2000000 in
set_option maxRecDepth 100000 in
/-- equal: do two trees tell the same? -/
theorem equal_any (F G : Nat → Prop) (d e : Nat) (w : World) (p q : Nat) (n u : Nd) (ht : TreeAt w F d p n) (hu : TreeAt w G e q u) (hpn : n.parts ≤ 1000000) (hpu : u.parts ≤ 1000000) :
    Calls Try.prog 52 #[.pointer (some ⟨p, 0, none⟩), .pointer (some ⟨q, 0, none⟩)] w fun e' w' => e' = .returned (.bool (n.alike u)) ∧ Below w.heap.size w w' := by
  have h1 := treeNode_of d w ⟨p, 0, none⟩ (n.named ⟨#[]⟩) (fun w2 hb => node_ok d _ w2 p n ⟨#[]⟩ (TreeAt.mono (G := fun b => b < w2.heap.size) (fun b _ hb2 => hb2) _ _ _ (ht.below hb)) (fun b hb => hb) hpn (by show (0 : Nat) ≤ _; omega))
  have H1 := Lib.hid h1
  have Hu := Lib.hid hu
  have Ht := Lib.hid ht
  clear h1 hu ht
  go_enter Try.func52, Try.ntmps52
  go_wp2_with fail
  refine H1.out.mono ?_
  rintro e1 w1 ⟨a1, c1, rfl, hn1, hb1⟩
  have Hn1 := Lib.hid hn1
  have Hb1 := Lib.hid hb1
  have H2 := Lib.hid (treeNode_of e w1 ⟨q, 0, none⟩ (u.named ⟨#[]⟩) (fun w2 hb => node_ok e _ w2 q u ⟨#[]⟩ (TreeAt.mono (G := fun b => b < w2.heap.size) (fun b _ hb2 => hb2) _ _ _ ((Hu.out.below hb1).below hb)) (fun b hb => hb) hpu (by show (0 : Nat) ≤ _; omega)))
  clear hn1 hb1 H1
  go_wp2_with fail
  refine H2.out.mono ?_
  rintro e2 w2 ⟨a2, c2, rfl, hn2, hb2⟩
  have Hb2 := Lib.hid (below_on Hb1.out hb2)
  have hs := sameNode_any (max d e) _ _ w2 (n.named ⟨#[]⟩) (u.named ⟨#[]⟩) a1 c1 a2 c2 ((Hn1.out.below hb2).deeper (Nat.le_max_left d e)) (hn2.deeper (Nat.le_max_right d e))
  rw [show decide ((n.named ⟨#[]⟩).name = (u.named ⟨#[]⟩).name) = true from decide_eq_true rfl, Bool.true_and, alike_names] at hs
  have Hs := Lib.hid hs
  clear hn2 hb2 hs H2
  go_wp2_with fail
  refine Hs.out.mono ?_
  rintro e3 w3 ⟨rfl, hb3⟩
  have Hb3 := Lib.hid (below_on Hb2.out hb3)
  clear hb3
  go_wp2
  go_ret
  exact ⟨rfl, Hb3.out⟩
mutual
theorem allOf_size : ∀ (n : Nd) (p : ByteArray), ∀ x ∈ allOf n p, x.1.size ≤ p.size + partsAll n.kids
  | .mk nm v m ks, p, x, hx => by
    rw [allOf_eq] at hx
    rcases List.mem_cons.1 hx with rfl | hx
    · exact Nat.le_add_right _ _
    · exact allKids_size ks p x hx
theorem allKids_size : ∀ (ks : List Nd) (p : ByteArray), ∀ x ∈ allKids ks p, x.1.size ≤ p.size + partsAll ks
  | [], p, x, hx => by simp [allKids] at hx
  | k :: ks, p, x, hx => by
    rw [allKids, List.mem_append] at hx
    rcases hx with hx | hx
    · have h1 := allOf_size k (pathOf p k.name) x hx
      have h2 := pathOf_size p k.name
      have h3 := parts_eq k
      simp only [partsAll]
      omega
    · have h1 := allKids_size ks p x hx
      simp only [partsAll]
      omega
end
end Go.Proofs.Ythnbinlllmkabaa
