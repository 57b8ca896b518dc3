/- Trees in memory; tree.made. -/
import Derived.Test.YthnbinlllmkabaaCnt
import Derived.Test.YthnbinlllmkabaaBuild
namespace Go.Proofs.Ythnbinlllmkabaa
open Go.RowKit
set_option linter.unusedVariables false
set_option linter.unusedSimpArgs false

mutual
/-- How many things. -/
def Nd.cnt : Nd → Nat | .mk _ _ _ ks => 1 + cntAll ks
def cntAll : List Nd → Nat | [] => 0 | k :: ks => k.cnt + cntAll ks
end
mutual
/-- How many names the longest path has. -/
def Nd.dep : Nd → Nat | .mk _ _ _ ks => depAll ks
def depAll : List Nd → Nat | [] => 0 | k :: ks => max (k.dep + 1) (depAll ks)
end
theorem cnt_eq (n : Nd) : n.cnt = 1 + cntAll n.kids := by cases n; rfl
theorem dep_eq (n : Nd) : n.dep = depAll n.kids := by cases n; rfl
theorem cntAll_append : ∀ a b : List Nd, cntAll (a ++ b) = cntAll a + cntAll b
  | [], b => by simp [cntAll]
  | x :: a, b => by simp [cntAll, cntAll_append a b]; omega
theorem depAll_append : ∀ a b : List Nd, depAll (a ++ b) = max (depAll a) (depAll b)
  | [], b => by simp [depAll]
  | x :: a, b => by simp only [List.cons_append, depAll, depAll_append a b]; omega
theorem cntAll_take (ks : List Nd) (i : Nat) (h : i < ks.length) : cntAll (ks.take (i + 1)) = cntAll (ks.take i) + (ks[i]).cnt := by
  rw [List.take_succ_eq_append_getElem h, cntAll_append]; simp [cntAll]
theorem depAll_take (ks : List Nd) (i : Nat) (h : i < ks.length) : depAll (ks.take (i + 1)) = max (depAll (ks.take i)) ((ks[i]).dep + 1) := by
  rw [List.take_succ_eq_append_getElem h, depAll_append]; simp [depAll]
theorem cntAll_take_le (ks : List Nd) (i : Nat) : cntAll (ks.take i) ≤ cntAll ks := by
  have := cntAll_append (ks.take i) (ks.drop i)
  rw [List.take_append_drop] at this
  omega
mutual
theorem dep_le_cnt : ∀ n : Nd, n.dep + 1 ≤ n.cnt
  | .mk _ _ _ ks => by have := depAll_le ks; simp only [Nd.dep, Nd.cnt]; omega
theorem depAll_le : ∀ ks : List Nd, depAll ks ≤ cntAll ks
  | [] => by simp [depAll, cntAll]
  | k :: ks => by have h1 := dep_le_cnt k; have h2 := depAll_le ks; simp only [depAll, cntAll]; omega
end
mutual
theorem cnt_le_parts : ∀ n : Nd, n.cnt ≤ n.parts
  | .mk nm _ _ ks => by have := cntAll_le ks; simp only [Nd.cnt, Nd.parts]; omega
theorem cntAll_le : ∀ ks : List Nd, cntAll ks ≤ partsAll ks
  | [] => by simp [cntAll, partsAll]
  | k :: ks => by have h1 := cnt_le_parts k; have h2 := cntAll_le ks; simp only [cntAll, partsAll]; omega
end
/-- The cells of a tree. -/
def trow (v : Vl) (m : Mk × Mk) (s k : Value) (c d : Nat) : List Value := v.cells ++ (mcells m ++ [s, k, .int .i64 (c : Nat), .int .i64 (d : Nat)])
theorem trow_length {v : Vl} {m : Mk × Mk} {s k : Value} {c d : Nat} (h : v.wf) : (trow v m s k c d).length = 43 := by
  simp only [trow, List.length_append, v.cells_length h, mcells_length, List.length_cons, List.length_nil]
/-- Names, as cells. -/
def strs (l : List ByteArray) : List Value := l.map Value.string
def ptrs (l : List Nat) : List Value := l.map fun p => .pointer (some ⟨p, 0, none⟩)
/-- What a tree's cells hold. -/
theorem trow_at {w : World} {b o : Nat} {v : Vl} {m : Mk × Mk} {s k : Value} {c d : Nat} (hv : v.wf) (h : w.rangeAt b o (trow v m s k c d)) :
    w.rangeAt b o v.cells ∧ w.rangeAt b (o + 35) (mcells m) ∧ w.cell? ⟨b, o + 39, none⟩ = some s ∧ w.cell? ⟨b, o + 40, none⟩ = some k ∧ w.cell? ⟨b, o + 41, none⟩ = some (.int .i64 (c : Nat)) ∧ w.cell? ⟨b, o + 42, none⟩ = some (.int .i64 (d : Nat)) := by
  have hl := v.cells_length hv
  have at_ : ∀ j u, [s, k, Value.int .i64 (c : Nat), Value.int .i64 (d : Nat)][j]? = some u → w.cell? ⟨b, o + (39 + j), none⟩ = some u := fun j u hj => by
    refine h (39 + j) u ?_
    show (v.cells ++ (mcells m ++ [s, k, Value.int .i64 (c : Nat), Value.int .i64 (d : Nat)]))[39 + j]? = some u
    rw [List.getElem?_append_right (by omega), hl, List.getElem?_append_right (by rw [mcells_length]; omega), mcells_length, show 39 + j - 35 - 4 = j by omega]
    exact hj
  refine ⟨rangeAt_pre h, ?_, at_ 0 s rfl, at_ 1 k rfl, at_ 2 _ rfl, at_ 3 _ rfl⟩
  have h1 := rangeAt_sub (xs := v.cells) (ys := mcells m) h
  rw [hl] at h1
  exact h1
/-- At p stands a tree that is n but for its name, in blocks of F, as deep as d. -/
def TreeAt (w : World) (F : Nat → Prop) : Nat → Nat → Nd → Prop
  | 0, _, _ => False
  | d + 1, p, n => F p ∧ n.v.wf ∧ mwf n.m ∧ ∃ (an ak : Option Addr) (cn ck : Nat) (ps : List Nat), w.heap[p]? = some (.cells (trow n.v n.m (.slice an n.kids.length cn) (.slice ak n.kids.length ck) n.cnt n.dep).toArray 120 (0, 0)) ∧
      Sl w 1 (.slice an n.kids.length cn) n.kids.length (strs (n.kids.map Nd.name)) ∧ Sl w 1 (.slice ak n.kids.length ck) n.kids.length (ptrs ps) ∧ (∀ b, (Value.slice an 0 0).ownBlock = some b → n.kids ≠ [] → F b) ∧ (∀ b, (Value.slice ak 0 0).ownBlock = some b → n.kids ≠ [] → F b) ∧ ps.length = n.kids.length ∧
      n.kids.length ≤ cn ∧ n.kids.length ≤ ck ∧ (∀ (i q : Nat) (k : Nd), ps[i]? = some q → n.kids[i]? = some k → k.name.size ≤ 9223372036854775807 ∧ TreeAt w F d q k)
theorem TreeAt.kept {F S : Nat → Prop} {w w' : World} (hu : Upd S w w') (hS : ∀ b, F b → ¬ S b) : ∀ (d p : Nat) (n : Nd), TreeAt w F d p n → TreeAt w' F d p n
  | 0, _, _, h => h
  | d + 1, p, n, h => by
    obtain ⟨h1, h2, h3, an, ak, cn, ck, ps, h4, h5, h6, h7, h8, h9, h10, h11, h12⟩ := h
    refine ⟨h1, h2, h3, an, ak, cn, ck, ps, hu.at_ h4 (hS p h1), h5.kept hu (fun b hb hne => hS b (h7 b ((blk an _ _ _ _).symm.trans hb) (fun e => hne (by rw [e]; rfl)))), h6.kept hu (fun b hb hne => hS b (h8 b ((blk ak _ _ _ _).symm.trans hb) (fun e => ?_))), h7, h8, h9, h10, h11, fun i q k hq hk => ⟨(h12 i q k hq hk).1, TreeAt.kept hu hS d q k (h12 i q k hq hk).2⟩⟩
    rw [e] at h9
    exact hne (by rw [List.length_eq_zero_iff.1 h9]; rfl)
theorem TreeAt.below {F : Nat → Prop} {w w' : World} {d p : Nat} {n : Nd} (h : TreeAt w F d p n) (hb : Below w.heap.size w w') : TreeAt w' F d p n :=
  TreeAt.kept (Upd.below hb fun _ => False) (fun _ _ => id) d p n h
theorem TreeAt.lt {F : Nat → Prop} {w : World} {d p : Nat} {n : Nd} (h : TreeAt w F d p n) : p < w.heap.size := by
  cases d with
  | zero => exact h.elim
  | succ d => obtain ⟨_, _, _, _, _, _, _, _, h4, _⟩ := h; exact lt_heap h4
theorem TreeAt.mono {F G : Nat → Prop} {w : World} (hG : ∀ b, F b → b < w.heap.size → G b) : ∀ (d p : Nat) (n : Nd), TreeAt w F d p n → TreeAt w G d p n
  | 0, _, _, h => h
  | d + 1, p, n, h => by
    obtain ⟨h1, h2, h3, an, ak, cn, ck, ps, h4, h5, h6, h7, h8, h9, h10, h11, h12⟩ := h
    refine ⟨hG p h1 (lt_heap h4), h2, h3, an, ak, cn, ck, ps, h4, h5, h6, fun b hb hne => hG b (h7 b hb hne) ?_, fun b hb hne => hG b (h8 b hb hne) ?_, h9, h10, h11, fun i q k hq hk => ⟨(h12 i q k hq hk).1, TreeAt.mono hG d q k (h12 i q k hq hk).2⟩⟩
    · obtain ⟨g, off, he, hg, _⟩ := h5.open_ (by simp [strs]; exact List.length_pos_iff.2 hne)
      rw [he] at hb; simp [Value.ownBlock] at hb; omega
    · obtain ⟨g, off, he, hg, _⟩ := h6.open_ (by simp [ptrs, h9]; exact List.length_pos_iff.2 hne)
      rw [he] at hb; simp [Value.ownBlock] at hb; omega
theorem TreeAt.more {F : Nat → Prop} {w : World} : ∀ (d p : Nat) (n : Nd), TreeAt w F d p n → TreeAt w F (d + 1) p n
  | 0, _, _, h => h.elim
  | d + 1, p, n, h => by
    obtain ⟨h1, h2, h3, an, ak, cn, ck, ps, h4, h5, h6, h7, h8, h9, h10, h11, h12⟩ := h
    exact ⟨h1, h2, h3, an, ak, cn, ck, ps, h4, h5, h6, h7, h8, h9, h10, h11, fun i q k hq hk => ⟨(h12 i q k hq hk).1, TreeAt.more d q k (h12 i q k hq hk).2⟩⟩
theorem TreeAt.deeper {F : Nat → Prop} {w : World} {d e p : Nat} {n : Nd} (h : TreeAt w F d p n) (hde : d ≤ e) : TreeAt w F e p n := by
  induction e with
  | zero => obtain rfl : d = 0 := by omega
            exact h
  | succ e ih =>
    by_cases hd : d = e + 1
    · subst hd; exact h
    · exact TreeAt.more _ _ _ (ih (by omega))
theorem info_tree : (Try.prog.info? 120).map (·.size) = some 43 := by kernel_rfl
/-- Trees, of which these are the blocks. -/
def TreesAt (w : World) (F : Nat → Prop) (d : Nat) (ps : List Nat) (ks : List Nd) : Prop := ps.length = ks.length ∧ ∀ (i q : Nat) (k : Nd), ps[i]? = some q → ks[i]? = some k → k.name.size ≤ 9223372036854775807 ∧ TreeAt w F d q k
theorem TreesAt.kept {F S : Nat → Prop} {w w' : World} {d : Nat} {ps : List Nat} {ks : List Nd} (h : TreesAt w F d ps ks) (hu : Upd S w w') (hS : ∀ b, F b → ¬ S b) : TreesAt w' F d ps ks :=
  ⟨h.1, fun i q k hq hk => ⟨(h.2 i q k hq hk).1, TreeAt.kept hu hS _ _ _ (h.2 i q k hq hk).2⟩⟩
theorem TreeAt.cell {F : Nat → Prop} {w : World} {d p : Nat} {n : Nd} (h : TreeAt w F d p n) : w.cell? ⟨p, 41, none⟩ = some (.int .i64 (n.cnt : Nat)) ∧ w.cell? ⟨p, 42, none⟩ = some (.int .i64 (n.dep : Nat)) := by
  cases d with
  | zero => exact h.elim
  | succ d =>
    obtain ⟨h1, h2, h3, an, ak, cn, ck, ps, h4, _⟩ := h
    obtain ⟨_, _, _, _, c1, c2⟩ := trow_at (o := 0) h2 (rangeAt_row h4)
    simp only [Nat.zero_add] at c1 c2
    exact ⟨c1, c2⟩
set_option maxRecDepth 100000 in
theorem build_tree (v : Vl) (m : Mk × Mk) (s k : Value) (hs : ∃ a n c, s = .slice a n c) (hk : ∃ a n c, k = .slice a n c) (hv : v.sum.length = 32) (w : World) :
    (Instr.build 120 #[(0, .agg v.cells.toArray), (1, .agg (mcells m).toArray), (2, s), (3, k), (4, .int .i64 1)]).run Try.prog w = .ok (.agg (trow v m s k 1 0).toArray) w := by
  obtain ⟨kd, md, sz, sm⟩ := v
  obtain ⟨⟨x0, x1⟩, ⟨x2, x3⟩⟩ := m
  obtain ⟨b0, b1, b2, b3, b4, b5, b6, b7, b8, b9, b10, b11, b12, b13, b14, b15, b16, b17, b18, b19, b20, b21, b22, b23, b24, b25, b26, b27, b28, b29, b30, b31, hl⟩ := list32 sm hv
  obtain ⟨a1, n1, c1, rfl⟩ := hs
  obtain ⟨a2, n2, c2, rfl⟩ := hk
  subst hl
  exact run_build w _ _ _ (by kernel_rfl)
theorem trow_set (v : Vl) (m : Mk × Mk) (s k : Value) (c d c' : Nat) (hv : v.wf) : (trow v m s k c d).toArray.setIfInBounds 41 (.int .i64 (c' : Nat)) = (trow v m s k c' d).toArray := by
  have hl := v.cells_length hv
  apply Array.ext'
  rw [Array.toList_setIfInBounds]
  show (v.cells ++ (mcells m ++ [s, k, .int .i64 (c : Nat), .int .i64 (d : Nat)])).set 41 _ = v.cells ++ (mcells m ++ [s, k, .int .i64 (c' : Nat), .int .i64 (d : Nat)])
  rw [List.set_append_right _ _ (by omega), hl]
  rfl
theorem trow_set2 (v : Vl) (m : Mk × Mk) (s k : Value) (c d d' : Nat) (hv : v.wf) : (trow v m s k c d).toArray.setIfInBounds 42 (.int .i64 (d' : Nat)) = (trow v m s k c d').toArray := by
  have hl := v.cells_length hv
  apply Array.ext'
  rw [Array.toList_setIfInBounds]
  show (v.cells ++ (mcells m ++ [s, k, .int .i64 (c : Nat), .int .i64 (d : Nat)])).set 42 _ = v.cells ++ (mcells m ++ [s, k, .int .i64 (c : Nat), .int .i64 (d' : Nat)])
  rw [List.set_append_right _ _ (by omega), hl]
  rfl
set_option maxHeartbeats 2000000 in
set_option maxRecDepth 100000 in
theorem made_any (w : World) (F : Nat → Prop) (d : Nat) (v : Vl) (m : Mk × Mk) (hv : v.wf) (hm : mwf m) (ks : List Nd) (ps : List Nat) (hT : TreesAt w F d ps ks) (nk : Nat) (hnk : ks.length = nk) (an ak : Option Addr) (cn ck : Nat) (hcn : nk ≤ cn) (hck : nk ≤ ck)
    (hs : Sl w 1 (.slice an nk cn) nk (strs (ks.map Nd.name))) (hk : Sl w 1 (.slice ak nk ck) nk (ptrs ps)) (hc : cntAll ks ≤ 1000000000) (nm : ByteArray)
    (hFn : ∀ b, (Value.slice an 0 0).ownBlock = some b → ks ≠ [] → F b) (hFk : ∀ b, (Value.slice ak 0 0).ownBlock = some b → ks ≠ [] → F b) :
    Calls Try.prog 91 #[.agg v.cells.toArray, .agg (mcells m).toArray, .slice an nk cn, .slice ak nk ck] w fun e w' => ∃ p, e = .returned (.pointer (some ⟨p, 0, none⟩)) ∧ TreeAt w' (fun b => F b ∨ b = p) (d + 1) p (.mk nm v m ks) ∧ w.heap.size ≤ p ∧ Below w.heap.size w w' := by
  have hb1 := heap_alloc_new w (.cells v.cells.toArray 24)
  have hnk63 : nk ≤ 9223372036854775807 := by obtain ⟨_, _, _, _, h, _⟩ := hs; exact h
  have Hv := Lib.hid hv
  have hv35 := Lib.hid (v.cells_length hv)
  have fv : ((w.alloc (.cells v.cells.toArray 24)).alloc (.cells (mcells m).toArray 27)).rangeAt w.heap.size 0 v.cells := rangeAt_row ((Below.heap_alloc _ _ _ (by simp)).trans hb1)
  have fm : ((w.alloc (.cells v.cells.toArray 24)).alloc (.cells (mcells m).toArray 27)).rangeAt (w.heap.size + 1) 0 (mcells m) := by
    have := heap_alloc_new (w.alloc (.cells v.cells.toArray 24)) (.cells (mcells m).toArray 27)
    rw [World.size_alloc] at this
    exact rangeAt_row this
  have Fv := Lib.hid fv
  have Fm := Lib.hid fm
  have HT := Lib.hid hT
  have Hs := Lib.hid hs
  have Hk := Lib.hid hk
  have Hnk := Lib.hid hnk
  have HF := Lib.hid (And.intro hFn hFk)
  have hbel := Lib.hid (on_alloc (on_alloc (Below.refl _ w) (.cells v.cells.toArray 24)) (.cells (mcells m).toArray 27))
  clear hb1 hv fv fm hT hs hk hnk hFn hFk
  have Hbt := Lib.hid (fun w => build_tree v m (.slice an nk cn) (.slice ak nk ck) ⟨_, _, _, rfl⟩ ⟨_, _, _, rfl⟩ Hv.out.1 w)
  go_enter Try.func91, Try.ntmps91
  go_wp2_with (first | (refine wpList_load_midg (by rfl) 24 (.tmp 4) rfl w.heap.size 0 rfl v.cells _ Fv.out Try.underlying24 rfl (by rw [hv35.out]; kernel_rfl) ?_) | (refine wpList_load_midg (by rfl) 27 (.tmp 5) rfl (w.heap.size + 1) 0 rfl (mcells m) _ Fm.out Try.underlying27 rfl (by kernel_rfl) ?_) | (refine wpList_build_eq (by rfl) 120 #[(0, .tmp 12), (1, .tmp 13), (2, .tmp 14), (3, .tmp 15), (4, .const (.int .i64 1))] rfl #[(0, .agg v.cells.toArray), (1, .agg (mcells m).toArray), (2, .slice an nk cn), (3, .slice ak nk ck), (4, .int .i64 1)] (by kernel_rfl) (.agg (trow v m (.slice an nk cn) (.slice ak nk ck) 1 0).toArray) (Hbt.out _) ?_))
  have hrow := heap_alloc_new ((w.alloc (.cells v.cells.toArray 24)).alloc (.cells (mcells m).toArray 27)) (.cells (trow v m (.slice an nk cn) (.slice ak nk ck) 1 0).toArray 120)
  have hbel3 := on_alloc hbel.out (.cells (trow v m (.slice an nk cn) (.slice ak nk ck) 1 0).toArray 120)
  rw [World.size_alloc, World.size_alloc] at hrow
  generalize ((w.alloc (.cells v.cells.toArray 24)).alloc (.cells (mcells m).toArray 27)).alloc (.cells (trow v m (.slice an nk cn) (.slice ak nk ck) 1 0).toArray 120) = w1 at hrow hbel3 ⊢
  obtain ⟨P, hP⟩ : ∃ P, P = w.heap.size + 1 + 1 := ⟨_, rfl⟩
  have hPw : w.heap.size ≤ P := by omega
  rw [← hP] at hrow ⊢
  have Hrow := Lib.hid hrow
  have Hbel3 := Lib.hid hbel3
  clear hrow hbel3 hP hbel Fv Fm Hbt
  go_loopw [20] (fun i wr => ∃ k : Nat, k ≤ nk ∧ i = .int .i64 k ∧ wr.heap[P]? = some (.cells (trow v m (.slice an nk cn) (.slice ak nk ck) (1 + cntAll (ks.take k)) (depAll (ks.take k))).toArray 120 (0, 0)) ∧ Below w.heap.size w wr) (fun i _ => nk - (intOf i).toNat)
  case atStart => exact ⟨0, Nat.zero_le _, rfl, Hrow.out, Hbel3.out⟩
  case round =>
    obtain ⟨k, hkm, rfl, hr, hbe⟩ := hrel
    have Hr := Lib.hid hr
    have Hbe := Lib.hid hbe
    clear hr hbe Hrow Hbel3
    by_cases hlt : k < nk
    · have hkl : k < ks.length := by rw [Hnk.out]; exact hlt
      have hpl : k < ps.length := by rw [HT.out.1]; exact hkl
      obtain ⟨g, off, rfl, _, hcc⟩ := (Hk.out.below Hbe.out).open_ (by simp [ptrs]; omega)
      obtain ⟨q, hq⟩ : ∃ q, q = ps[k] := ⟨_, rfl⟩
      obtain ⟨x, hx⟩ : ∃ x, x = ks[k] := ⟨_, rfl⟩
      have f0 := hcc k (.pointer (some ⟨q, 0, none⟩)) (by simp [ptrs, hq, List.getElem?_eq_getElem hpl])
      obtain ⟨c1, c2⟩ := (HT.out.2 k q x (by rw [hq]; exact List.getElem?_eq_getElem hpl) (by rw [hx]; exact List.getElem?_eq_getElem hkl)).2.cell
      have hqlt := (HT.out.2 k q x (by rw [hq]; exact List.getElem?_eq_getElem hpl) (by rw [hx]; exact List.getElem?_eq_getElem hkl)).2.lt
      have d1 := (Hbe.out.cell (p := ⟨q, 41, none⟩) hqlt).trans c1
      have d2 := (Hbe.out.cell (p := ⟨q, 42, none⟩) hqlt).trans c2
      obtain ⟨_, _, _, _, e1, e2⟩ := trow_at (o := 0) Hv.out (rangeAt_row Hr.out)
      simp only [Nat.zero_add] at e1 e2
      have hcs := cntAll_take ks k hkl
      have hds := depAll_take ks k hkl
      have hcl := cntAll_take_le ks (k + 1)
      rw [← hx] at hcs hds
      have hdc := depAll_le (ks.take k)
      have hxc := dep_le_cnt x
      obtain ⟨c0, hc0⟩ : ∃ c0, c0 = 1 + cntAll (ks.take k) := ⟨_, rfl⟩
      obtain ⟨d0, hd0⟩ : ∃ d0, d0 = depAll (ks.take k) := ⟨_, rfl⟩
      obtain ⟨cx, hcx⟩ : ∃ cx, cx = x.cnt := ⟨_, rfl⟩
      obtain ⟨dx, hdx⟩ : ∃ dx, dx = x.dep := ⟨_, rfl⟩
      have l1 : c0 ≤ 1000000001 := by omega
      have l2 : cx ≤ 1000000000 := by omega
      have l3 : d0 ≤ 1000000000 := by omega
      have l4 : dx ≤ 1000000000 := by omega
      rw [← hcx] at d1
      rw [← hdx] at d2
      rw [← hc0] at e1
      rw [← hd0] at e2
      have hrr := Hr.out
      rw [← hc0, ← hd0] at hrr
      have Hrr := Lib.hid hrr
      have Hcd := Lib.hid (show 1 + cntAll (ks.take (k + 1)) = c0 + cx ∧ depAll (ks.take (k + 1)) = max d0 (dx + 1) by rw [hcs, hds, hc0, hcx, hd0, hdx]; exact ⟨by omega, rfl⟩)
      have hqP : q < w.heap.size := hqlt
      clear hq hx c1 c2 hcc hcs hds hcl hdc hxc hc0 hd0 hcx hdx hrr hqlt
      have i1 : (0 : Int) ≤ (k : Int) := by omega
      have i2 : (k : Int) < (nk : Int) := by omega
      have z1 : IntKind.i64.wrap ((c0 : Int) + (cx : Int)) = (c0 : Int) + (cx : Int) := IntWalk.i64_in _ (by omega)
      have fz := frozen_of_row wr P 41 _ _ Hrr.out
      go_wp2_with fail
      go_still_tail 11, (by kernel_rfl)
      change wpList _ _ _ _ _ wr.drew
      go_wp2_with fail
      have hr3 := heap_setCell_same wr P 41 _ _ (.int .i64 ((c0 + cx : Nat) : Int)) Hrr.out
      rw [trow_set v m _ _ c0 d0 (c0 + cx) Hv.out] at hr3
      have hu3 : Upd (fun b => b = P) wr (wr.setCell ⟨P, 41, none⟩ (.int .i64 ((c0 + cx : Nat) : Int))) := (Upd.refl _ _).setCell _ _ (fun _ => rfl)
      have g2 := hu3.cell d2 (fun e => by have : q = P := e; omega)
      rw [show ((c0 : Int) + (cx : Int)) = ((c0 + cx : Nat) : Int) by omega]
      obtain ⟨w3, hw3⟩ : ∃ w3, w3 = (wr.setCell ⟨P, 41, none⟩ (.int .i64 ((c0 + cx : Nat) : Int))).drew := ⟨_, rfl⟩
      replace hr3 := (show w3.heap[P]? = (wr.setCell ⟨P, 41, none⟩ (.int .i64 ((c0 + cx : Nat) : Int))).heap[P]? by rw [hw3]; rfl).trans hr3
      replace hu3 : Upd (fun b => b = P) wr w3 := by rw [hw3]; exact hu3.drew
      replace g2 := (show w3.cell? ⟨q, 42, none⟩ = (wr.setCell ⟨P, 41, none⟩ (.int .i64 ((c0 + cx : Nat) : Int))).cell? ⟨q, 42, none⟩ by rw [hw3]; rfl).trans g2
      rw [← hw3]
      obtain ⟨_, _, _, _, _, g3⟩ := trow_at (o := 0) Hv.out (rangeAt_row hr3)
      simp only [Nat.zero_add] at g3
      have fz3 := frozen_of_row w3 P 42 _ _ hr3
      have Hr3 := Lib.hid hr3
      have Hu3 := Lib.hid hu3
      have z2 : IntKind.i64.wrap ((dx : Int) + 1) = (dx : Int) + 1 := IntWalk.i64_in _ (by omega)
      clear hr3 hu3 f0 e1 e2 d1 d2 fz z1 hw3
      go_wp2_with fail
      go_still_tail 13, (by kernel_rfl)
      change wpList _ _ _ _ _ w3.drew
      go_wp2_with fail
      rw [show (if (d0 : Int) < (dx : Int) + 1 then (dx : Int) + 1 else (d0 : Int)) = ((max d0 (dx + 1) : Nat) : Int) by split <;> omega]
      have hs4 := heap_setCell_same w3 P 42 _ _ (.int .i64 ((max d0 (dx + 1) : Nat) : Int)) Hr3.out
      rw [trow_set2 v m _ _ (c0 + cx) d0 (max d0 (dx + 1)) Hv.out] at hs4
      have hu4 : Upd (fun b => b = P) w3 (w3.setCell ⟨P, 42, none⟩ (.int .i64 ((max d0 (dx + 1) : Nat) : Int))) := (Upd.refl _ _).setCell _ _ (fun _ => rfl)
      have Hs4 := Lib.hid hs4
      have Hb4 := Lib.hid (Hbe.out.upd (Nat.le_refl _) (Hu3.out.trans hu4) (fun b hb => by omega))
      clear hs4 hu4 g2 g3 fz3 z2
      go_roundw
      case rel => exact ⟨k + 1, hlt, by go_num, by rw [Hcd.out.1, Hcd.out.2]; exact Hs4.out, Hb4.out.drew⟩
      case measure => simp [intOf]; omega
    · obtain rfl : k = nk := by omega
      clear hlt
      go_wp2
      go_ret
      have hr := Hr.out
      rw [List.take_of_length_le (by rw [Hnk.out]; exact Nat.le_refl _)] at hr
      refine ⟨P, rfl, ?_, hPw, Hbe.out⟩
      have hks := Hnk.out
      subst hks
      have hTw := HT.out.kept (Upd.below Hbe.out (fun _ => False)) (fun _ _ => id)
      exact ⟨.inr rfl, Hv.out, hm, an, ak, cn, ck, ps, hr, Hs.out.below Hbe.out, Hk.out.below Hbe.out, fun b hb hne => .inl (HF.out.1 b hb hne), fun b hb hne => .inl (HF.out.2 b hb hne), hTw.1, hcn, hck, fun i q x hq hx => ⟨(hTw.2 i q x hq hx).1, TreeAt.mono (fun b hb _ => .inl hb) _ _ _ (hTw.2 i q x hq hx).2⟩⟩
end Go.Proofs.Ythnbinlllmkabaa
