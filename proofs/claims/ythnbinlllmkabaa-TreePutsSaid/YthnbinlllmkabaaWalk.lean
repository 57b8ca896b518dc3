/- A tree's iterators, called with whatever function. -/
import Derived.Test.YthnbinlllmkabaaAll2
import Derived.Test.YthnbinlllmkabaaIter
namespace Go.Proofs.Ythnbinlllmkabaa
open Go.RowKit Go.Shelf
set_option linter.unusedVariables false
set_option linter.unusedSimpArgs false

/-- What the function that is called does, for each path in turn. -/
def Yields (gf : FuncId) (lb : Array Value) (L : List (ByteArray × Vl × (Mk × Mk))) (S0 : Nat → Prop) (J : Nat → World → Prop) (Jx : World → Prop) : Prop :=
  ∀ (i : Nat) (x : ByteArray × Vl × (Mk × Mk)) (W : World), L[i]? = some x → J i W → Calls Try.prog gf (#[.string x.1, .agg x.2.1.cells.toArray] ++ lb) W fun e W' => (e = .returned (.bool true) ∧ J (i + 1) W' ∧ Upd S0 W W') ∨ (e = .returned (.bool false) ∧ Jx W' ∧ Upd S0 W W')
theorem allKids_at (ks : List Nd) (k : Nat) (hk : k < ks.length) (p : ByteArray) (j : Nat) (x : ByteArray × Vl × (Mk × Mk)) (h : (allOf ks[k] (pathOf p ks[k].name))[j]? = some x) : (allKids ks p)[cntAll (ks.take k) + j]? = some x := by
  have e : ks = ks.take k ++ (ks[k] :: ks.drop (k + 1)) := by rw [← List.drop_eq_getElem_cons hk, List.take_append_drop]
  have h2 : allKids ks p = allKids (ks.take k) p ++ (allOf ks[k] (pathOf p ks[k].name) ++ allKids (ks.drop (k + 1)) p) := by
    conv => lhs; rw [e]
    rw [allKids_append]
    rfl
  have hj := (List.getElem?_eq_some_iff.1 h).1
  rw [h2, ← allKids_length (ks.take k) p, List.getElem?_append_right (Nat.le_add_right _ _), Nat.add_sub_cancel_left, List.getElem?_append_left hj]
  exact h
def WalkOk (d : Nat) : Prop := ∀ (F : Nat → Prop) (w : World) (p : Nat) (n : Nd) (s : ByteArray) (gf : FuncId) (lb : Array Value) (L : List (ByteArray × Vl × (Mk × Mk))) (S0 : Nat → Prop) (J : Nat → World → Prop) (Jx : World → Prop) (i0 : Nat), Enters Try.prog gf → Yields gf lb L S0 J Jx → TreeAt w F d p n → (∀ b, F b → ¬ S0 b) →
  n.parts ≤ 1000000 → s.size + 1 + partsAll n.kids ≤ 2000000 → (∀ j x, (allOf n s)[j]? = some x → L[i0 + j]? = some x) → J i0 w →
  Calls Try.prog 80 #[.pointer (some ⟨p, 0, none⟩), .string s, .func (.func gf) #[] lb] w fun e w' => (e = .returned (.bool true) ∧ J (i0 + n.cnt) w' ∧ Upd S0 w w') ∨ (e = .returned (.bool false) ∧ Jx w' ∧ Upd S0 w w')
set_option maxHeartbeats 4000000 in
set_option maxRecDepth 100000 in
theorem walk_step (d : Nat) (ih : WalkOk d) : WalkOk (d + 1) := by
  intro F w p n s gf lb L S0 J Jx i0 eg hY ht hF hpt hss hL hJ
  have Ih := Lib.hid ih
  have Ht := Lib.hid ht
  have HY := Lib.hid hY
  have HL := Lib.hid hL
  have HJ := Lib.hid hJ
  have Eg := Lib.hid eg
  have egf : ∀ args w, (callFunc gf args).run Try.prog w = .ok (.enter gf args) w := eg
  have HF := Lib.hid hF
  obtain ⟨h1, hv, hmw, an, ak, cn, ck, ps, hrow, hsn, hsk, hFn, hFk, hpl, hcn, hck, hkids⟩ := ht
  obtain ⟨m, hm⟩ : ∃ m, m = n.kids.length := ⟨_, rfl⟩
  rw [← hm] at hrow hsn hsk
  have hme : m ≤ 1000000 := by have h1 := partsAll_len n.kids; have := parts_eq n; omega
  have Hpt := Lib.hid (show partsAll n.kids ≤ 1000000 by have := parts_eq n; omega)
  have Hss := Lib.hid hss
  have hsz : s.size ≤ 2000000 := by omega
  have hvl := Lib.hid (n.v.cells_length hv)
  have Hkids := Lib.hid hkids
  have Hsn := Lib.hid hsn
  have Hsk := Lib.hid hsk
  have Hrow := Lib.hid hrow
  have Hm := Lib.hid hm
  have HFF := Lib.hid (And.intro (hF p h1) (And.intro hFn hFk))
  have tro := trow_at (o := 0) hv (rangeAt_row hrow)
  simp only [Nat.zero_add] at tro
  have Hva := Lib.hid tro.1
  have Hpl := Lib.hid hpl
  clear ih hY hL hJ eg hF hrow hsn hsk hpt hss hkids hm tro h1 hFn hFk hpl hcn hck
  go_enter Try.func80, Try.ntmps80
  go_wp2_with (refine wpList_load_midg (by rfl) 24 (.tmp 13) rfl p 0 rfl n.v.cells _ Hva.out Try.underlying24 rfl (by rw [hvl.out]; kernel_rfl) ?_)
  refine (HY.out i0 (s, n.v, n.m) w (by have := HL.out 0 (s, n.v, n.m) (by rw [allOf_eq]; rfl); simpa using this) HJ.out).mono ?_
  rintro e w1 (⟨rfl, hJ1, hu1⟩ | ⟨rfl, hx1, hu1⟩)
  · have HJ1 := Lib.hid hJ1
    have Hu1 := Lib.hid hu1
    have f40 : w1.cell? ⟨p, 40, none⟩ = some (.slice ak m ck) := by
      have := (trow_at (o := 0) hv (rangeAt_row (hu1.at_ Hrow.out HFF.out.1))).2.2.2.1
      simpa using this
    clear hJ1 hu1
    go_wp2_with fail
    go_loopw [22] (fun i wr => ∃ k : Nat, k ≤ m ∧ i = .int .i64 k ∧ J (i0 + 1 + cntAll (n.kids.take k)) wr ∧ Upd S0 w wr) (fun i _ => m - (intOf i).toNat)
    case atStart => exact ⟨0, Nat.zero_le _, rfl, by simpa [cntAll] using HJ1.out, Hu1.out⟩
    case round =>
      obtain ⟨k, hk, rfl, hJk, huk⟩ := hrel
      have HJk := Lib.hid hJk
      have Huk := Lib.hid huk
      clear f40 hJk huk
      by_cases hlt : k < m
      · have hkm : k < n.kids.length := by rw [← Hm.out]; exact hlt
        obtain ⟨x, hx⟩ : ∃ x, x = n.kids[k]'hkm := ⟨_, rfl⟩
        have hkp : k < ps.length := by rw [Hpl.out]; exact hkm
        obtain ⟨q, hq⟩ : ∃ q, q = ps[k]'hkp := ⟨_, rfl⟩
        have hne : n.kids ≠ [] := by intro e; rw [e] at hkm; exact absurd hkm (Nat.not_lt_zero _)
        obtain ⟨gn, on, rfl, _, hcn⟩ := Hsn.out.open_ (by simp [strs]; omega)
        obtain ⟨gk, ok, rfl, _, hck⟩ := Hsk.out.open_ (by simp [ptrs]; omega)
        have c1 := Huk.out.cell (hcn k (.string x.name) (by simp [strs, hkm, hx])) (HF.out gn (HFF.out.2.1 gn rfl hne))
        have c2 := Huk.out.cell (hck k (.pointer (some ⟨q, 0, none⟩)) (by simp [ptrs, hkp, hq])) (HF.out gk (HFF.out.2.2 gk rfl hne))
        have f39 : wr.cell? ⟨p, 39, none⟩ = some (.slice (some ⟨gn, on, none⟩) m cn) := by
          have := (trow_at (o := 0) hv (rangeAt_row (Huk.out.at_ Hrow.out HFF.out.1))).2.2.1
          simpa using this
        have htx := Hkids.out k q x (by rw [hq]; exact List.getElem?_eq_getElem hkp) (by rw [hx]; exact List.getElem?_eq_getElem hkm)
        have Htx := Lib.hid (TreeAt.kept Huk.out (fun b hb hS => HF.out b hb hS) _ _ _ htx.2)
        have hxp := partsAll_get (ks := n.kids) hkm
        rw [← hx] at hxp
        have hxe := parts_eq x
        have hxn : x.name.size ≤ 2000000 := by have := Hpt.out; omega
        have Hxp := Lib.hid (show x.parts ≤ 1000000 by have := Hpt.out; omega)
        have Hxs := Lib.hid (show (pathOf s x.name).size + 1 + partsAll x.kids ≤ 2000000 by have := pathOf_size s x.name; have := Hss.out; omega)
        have HLx := Lib.hid (show ∀ j y, (allOf x (pathOf s x.name))[j]? = some y → L[i0 + 1 + cntAll (n.kids.take k) + j]? = some y from fun j y hj => by
          rw [hx] at hj
          have h1 := allKids_at n.kids k hkm s j y hj
          have h2 := HL.out (1 + (cntAll (n.kids.take k) + j)) y (by rw [allOf_eq, Nat.add_comm 1, List.getElem?_cons_succ]; exact h1)
          rw [show i0 + 1 + cntAll (n.kids.take k) + j = i0 + (1 + (cntAll (n.kids.take k) + j)) by omega]
          exact h2)
        have et := Lib.hid (show i0 + 1 + cntAll (n.kids.take (k + 1)) = i0 + 1 + cntAll (n.kids.take k) + x.cnt by rw [cntAll_take n.kids k hkm, ← hx]; omega)
        have i1 : (0 : Int) ≤ (k : Int) := by omega
        have i2 : (k : Int) < (m : Int) := by omega
        clear hcn hck htx hxp hxe hx hq
        go_wp2_with (go_at_call 108; refine (below_ok _ s x.name hsz hxn).mono ?_; rintro e w' ⟨rfl, hw⟩; obtain rfl := hw.symm)
        refine (Ih.out F wr q x (pathOf s x.name) gf lb L S0 J Jx _ Eg.out HY.out Htx.out HF.out Hxp.out Hxs.out HLx.out HJk.out).mono ?_
        rintro e w5 (⟨rfl, hJ5, hu5⟩ | ⟨rfl, hx5, hu5⟩)
        · have HJ5 := Lib.hid hJ5
          have Hu5 := Lib.hid (Huk.out.trans hu5)
          clear hJ5 hu5
          go_wp2
          go_roundw
          case rel => exact ⟨k + 1, hlt, by go_num, by rw [et.out]; exact HJ5.out, Hu5.out⟩
          case measure => simp [intOf]; omega
        · have Hx5 := Lib.hid (And.intro hx5 (Huk.out.trans hu5))
          clear hx5 hu5
          go_wp2
          go_ret
          exact .inr ⟨rfl, Hx5.out⟩
      · obtain rfl : k = m := by omega
        clear hlt
        have et := Lib.hid (show i0 + n.cnt = i0 + 1 + cntAll (n.kids.take k) by rw [cnt_eq, List.take_of_length_le (by rw [← Hm.out]; exact Nat.le_refl _)]; omega)
        go_wp2
        go_ret
        exact .inl ⟨rfl, by rw [et.out]; exact HJk.out, Huk.out⟩
  · have Hx1 := Lib.hid (And.intro hx1 hu1)
    clear hx1 hu1
    go_wp2
    go_ret
    exact .inr ⟨rfl, Hx1.out⟩
theorem walk_ok : ∀ d : Nat, WalkOk d
  | 0 => fun F w p n s gf lb L S0 J Jx i0 eg hY ht => ht.elim
  | d + 1 => walk_step d (walk_ok d)
theorem all_any (w : World) (p : Nat) :
    Calls Try.prog 20 #[.pointer (some ⟨p, 0, none⟩)] w fun e w' => e = .returned (.func (.func 79) #[] #[.pointer (some ⟨w.heap.size, 0, none⟩)]) ∧ w' = w.alloc (.cells #[.pointer (some ⟨p, 0, none⟩)] 55) := by
  go_enter Try.func20, Try.ntmps20
  go_wp2
  go_ret
  exact ⟨rfl, rfl⟩
/-- All's closure, called with whatever function. -/
theorem all1_ok (F : Nat → Prop) (d : Nat) (w : World) (Bt p : Nat) (n : Nd) (gf : FuncId) (lb : Array Value) (S0 : Nat → Prop) (J : Nat → World → Prop) (Jx : World → Prop) (eg : Enters Try.prog gf) (hY : Yields gf lb (allOf n ⟨#[]⟩) S0 J Jx) (ht : TreeAt w F d p n) (hF : ∀ b, F b → ¬ S0 b) (hpt : n.parts ≤ 1000000)
    (hb : w.cell? ⟨Bt, 0, none⟩ = some (.pointer (some ⟨p, 0, none⟩))) (hJ : J 0 w) :
    Calls Try.prog 79 #[.func (.func gf) #[] lb, .pointer (some ⟨Bt, 0, none⟩)] w fun e w' => (∃ v, e = .returned v) ∧ (J n.cnt w' ∨ Jx w') ∧ Upd S0 w w' := by
  have H := Lib.hid (walk_ok d F w p n ⟨#[]⟩ gf lb (allOf n ⟨#[]⟩) S0 J Jx 0 eg hY ht hF hpt (by have := parts_eq n; have e0 : (⟨#[]⟩ : ByteArray).size = 0 := rfl; omega) (fun j x h => by rw [Nat.zero_add]; exact h) hJ)
  clear eg hY ht hF hJ hpt
  go_enter Try.func79, Try.ntmps79
  go_wp2_with fail
  refine H.out.mono ?_
  rintro e w1 (⟨rfl, h1, h2⟩ | ⟨rfl, h1, h2⟩)
  · have H1 := Lib.hid (And.intro h1 h2)
    clear h1 h2
    go_wp2
    go_end0
    exact ⟨⟨_, rfl⟩, .inl (by have := H1.out.1; rwa [Nat.zero_add] at this), H1.out.2⟩
  · have H1 := Lib.hid (And.intro h1 h2)
    clear h1 h2
    go_wp2
    go_end0
    exact ⟨⟨_, rfl⟩, .inr H1.out.1, H1.out.2⟩
/-- Children's closure, called with whatever function: for each child in turn. -/
def YieldsC (gf : FuncId) (lb : Array Value) (m : Nat) (nm : Fin m → ByteArray) (pt : Fin m → Nat) (S0 : Nat → Prop) (J : Nat → World → Prop) (Jx : World → Prop) : Prop :=
  ∀ (i : Fin m) (W : World), J i.1 W → Calls Try.prog gf (#[.string (nm i), .pointer (some ⟨pt i, 0, none⟩)] ++ lb) W fun e W' => (e = .returned (.bool true) ∧ J (i.1 + 1) W' ∧ Upd S0 W W') ∨ (e = .returned (.bool false) ∧ Jx W' ∧ Upd S0 W W')
set_option maxHeartbeats 2000000 in
set_option maxRecDepth 100000 in
theorem childrenD_ok (w : World) (S0 : Nat → Prop) (Bt p m : Nat) (an ak : Option Addr) (cn ck : Nat) (nm : Fin m → ByteArray) (pt : Fin m → Nat) (gf : FuncId) (lb : Array Value) (J : Nat → World → Prop) (Jx : World → Prop) (eg : Enters Try.prog gf) (hY : YieldsC gf lb m nm pt S0 J Jx) (hm : m ≤ 1000000)
    (hb : w.cell? ⟨Bt, 0, none⟩ = some (.pointer (some ⟨p, 0, none⟩))) (hb0 : ¬ S0 Bt) (h39 : w.cell? ⟨p, 39, none⟩ = some (.slice an m cn)) (h40 : w.cell? ⟨p, 40, none⟩ = some (.slice ak m ck)) (hp0 : ¬ S0 p)
    (hns : ∀ i : Fin m, ∃ g off, an = some ⟨g, off, none⟩ ∧ ¬ S0 g ∧ w.cell? ⟨g, off + i.1, none⟩ = some (.string (nm i))) (hks : ∀ i : Fin m, ∃ g off, ak = some ⟨g, off, none⟩ ∧ ¬ S0 g ∧ w.cell? ⟨g, off + i.1, none⟩ = some (.pointer (some ⟨pt i, 0, none⟩))) (hJ : J 0 w) :
    Calls Try.prog 78 #[.func (.func gf) #[] lb, .pointer (some ⟨Bt, 0, none⟩)] w fun e w' => (∃ v, e = .returned v) ∧ (J m w' ∨ Jx w') ∧ Upd S0 w w' := by
  have HB := Lib.hid hb
  have H39 := Lib.hid h39
  have f40 := h40
  have fb := hb
  have Hns := Lib.hid hns
  have Hks := Lib.hid hks
  have HY := Lib.hid hY
  have HJ := Lib.hid hJ
  have Hb0 := Lib.hid (And.intro hb0 hp0)
  have egf : ∀ args w, (callFunc gf args).run Try.prog w = .ok (.enter gf args) w := eg
  clear hb h39 h40 hns hks hY hb0 hp0 hJ eg
  go_enter Try.func78, Try.ntmps78
  go_wp2_with fail
  go_loopw [10] (fun i wr => ∃ k : Nat, k ≤ m ∧ i = .int .i64 k ∧ J k wr ∧ Upd S0 w wr) (fun i _ => m - (intOf i).toNat)
  case atStart => exact ⟨0, Nat.zero_le _, rfl, HJ.out, Upd.refl _ _⟩
  case round =>
    obtain ⟨k, hk, rfl, hJs, hnx⟩ := hrel
    clear f40 fb
    by_cases hlt : k < m
    · obtain ⟨gn, on, rfl, hgn, cnm⟩ := Hns.out ⟨k, hlt⟩
      obtain ⟨gk, ok, rfl, hgk, ckm⟩ := Hks.out ⟨k, hlt⟩
      have c1 := hnx.cell cnm hgn
      have c2 := hnx.cell ckm hgk
      have c3 := hnx.cell HB.out Hb0.out.1
      have c4 := hnx.cell H39.out Hb0.out.2
      dsimp only at c1 c2
      have Hnx := Lib.hid hnx
      have Hcall := Lib.hid (HY.out ⟨k, hlt⟩ wr hJs)
      have i1 : (0 : Int) ≤ (k : Int) := by omega
      have i2 : (k : Int) < (m : Int) := by omega
      clear hnx cnm ckm hJs
      go_wp2_with fail
      refine Hcall.out.mono ?_
      rintro e w5 (⟨rfl, hJ5, hu5⟩ | ⟨rfl, hx5, hu5⟩)
      · have HJ5 := Lib.hid hJ5
        have Hu5 := Lib.hid (Hnx.out.trans hu5)
        clear hJ5 hu5
        go_wp2
        go_roundw
        case rel => exact ⟨k + 1, hlt, by go_num, HJ5.out, Hu5.out⟩
        case measure => simp [intOf]; omega
      · have Hx5 := Lib.hid (And.intro hx5 (Hnx.out.trans hu5))
        clear hx5 hu5
        go_wp2
        refine bodyPost_ret (results_none rfl _ _ _) rfl ?_
        exact ⟨⟨_, rfl⟩, .inr Hx5.out.1, Hx5.out.2⟩
    · obtain rfl : k = m := by omega
      have HJs := Lib.hid hJs
      have Hnx := Lib.hid hnx
      clear hlt hJs hnx
      go_wp2
      go_end0
      exact ⟨⟨_, rfl⟩, .inl HJs.out, Hnx.out⟩
end Go.Proofs.Ythnbinlllmkabaa
