/- A tree's kid, Sub, At, way. -/
import Derived.Test.YthnbinlllmkabaaSub
import Derived.Test.YthnbinlllmkabaaPlain
namespace Go.Proofs.Ythnbinlllmkabaa
open Go.RowKit
set_option linter.unusedVariables false
set_option linter.unusedSimpArgs false

mutual
/-- Everywhere the names rise. -/
def Nd.ris : Nd → Prop | .mk _ _ _ ks => Rising (ks.map Nd.name) ∧ risAll ks
def risAll : List Nd → Prop | [] => True | k :: ks => k.ris ∧ risAll ks
end
theorem ris_eq (n : Nd) : n.ris = (Rising (n.kids.map Nd.name) ∧ risAll n.kids) := by cases n; rfl
theorem risAll_iff : ∀ ks : List Nd, risAll ks ↔ ∀ k ∈ ks, k.ris
  | [] => by simp [risAll]
  | k :: ks => by simp [risAll, risAll_iff ks]
theorem risAll_get {ks : List Nd} (h : risAll ks) {i : Nat} {k : Nd} (hk : ks[i]? = some k) : k.ris := (risAll_iff ks).1 h k (List.mem_of_getElem? hk)
/-- Where a child of a name stands, or would. -/
def place (ks : List Nd) (t : ByteArray) : Nat := rank (ks.map Nd.name) t
/-- The child of a name. -/
def kidOf (ks : List Nd) (t : ByteArray) : Option Nd := (ks[place ks t]?).bind fun k => if k.name = t then some k else none
theorem kidOf_some {ks : List Nd} {t : ByteArray} {k : Nd} (h : kidOf ks t = some k) : ks[place ks t]? = some k ∧ k.name = t ∧ found (ks.map Nd.name) t = true := by
  unfold kidOf at h
  rw [Option.bind_eq_some_iff] at h
  obtain ⟨a, h1, h2⟩ := h
  split at h2
  · rename_i he
    injection h2 with h2
    subst h2
    refine ⟨h1, he, ?_⟩
    unfold found
    have h1' : (ks[rank (ks.map Nd.name) t]?) = some a := h1
    rw [List.getElem?_map, h1']
    simp [he]
  · cases h2
theorem kidOf_none {ks : List Nd} {t : ByteArray} (h : kidOf ks t = none) : found (ks.map Nd.name) t = false := by
  unfold found
  rw [List.getElem?_map]
  unfold kidOf at h
  cases hk : ks[rank (ks.map Nd.name) t]? with
  | none => rfl
  | some k =>
    have hk' : ks[place ks t]? = some k := hk
    rw [hk'] at h
    simp only [Option.bind_some] at h
    split at h
    · cases h
    · rename_i hne
      simpa using hne
theorem len_le_cnt : ∀ ks : List Nd, ks.length ≤ cntAll ks
  | [] => by simp [cntAll]
  | k :: ks => by have := len_le_cnt ks; have := cnt_eq k; simp only [List.length_cons, cntAll]; omega
theorem cnt_get {ks : List Nd} {i : Nat} {k : Nd} (h : ks[i]? = some k) : k.cnt ≤ cntAll ks := by
  obtain ⟨hi, rfl⟩ := List.getElem?_eq_some_iff.1 h
  have h1 := cntAll_take ks i hi
  have h2 := cntAll_take_le ks (i + 1)
  omega
set_option maxRecDepth 100000 in
theorem kid_some (F : Nat → Prop) (d : Nat) (w : World) (p : Nat) (n k : Nd) (t : ByteArray) (ht : TreeAt w F (d + 1) p n) (hr : Rising (n.kids.map Nd.name)) (hc : n.cnt ≤ 1000000000) (hk : kidOf n.kids t = some k) :
    Calls Try.prog 97 #[.pointer (some ⟨p, 0, none⟩), .string t] w fun e w' => ∃ q, e = .returned (.tuple #[.pointer (some ⟨q, 0, none⟩), .bool true]) ∧ TreeAt w F d q k ∧ Below w.heap.size w w' := by
  obtain ⟨h1, hv, hmw, an, ak, cn, ck, ps, hrow, hsn, hsk, hFn, hFk, hpl, hcn, hck, hkids⟩ := ht
  obtain ⟨hk1, hk2, hf⟩ := kidOf_some hk
  have hml : n.kids.length ≤ 1000000000 := by have := len_le_cnt n.kids; have := cnt_eq n; omega
  obtain ⟨m, hm⟩ : ∃ m, m = n.kids.length := ⟨_, rfl⟩
  rw [← hm] at hrow hsn hsk hml
  have tro := trow_at (o := 0) hv (rangeAt_row hrow)
  simp only [Nat.zero_add] at tro
  have c39 := tro.2.2.1
  have c40 := tro.2.2.2.1
  obtain ⟨j, hj⟩ : ∃ j, j = place n.kids t := ⟨_, rfl⟩
  have hkj := hk1
  rw [← hj] at hkj
  have hjm : j < m := by rw [hm]; exact (List.getElem?_eq_some_iff.1 hkj).1
  have hjp : j < ps.length := by rw [hpl, ← hm]; exact hjm
  obtain ⟨q, hq⟩ : ∃ q, q = ps[j]'hjp := ⟨_, rfl⟩
  have htq := (hkids j q k (by rw [hq]; exact List.getElem?_eq_getElem hjp) hkj).2
  obtain ⟨gk, ok, rfl, _, hcc⟩ := hsk.open_ (by simp [ptrs]; omega)
  have f0 := hcc j (.pointer (some ⟨q, 0, none⟩)) (by simp [ptrs, hjp, hq])
  have hsea := search_any w (n.kids.map Nd.name) t an m cn hsn (by rw [List.length_map]; exact hm.symm) hr (by omega)
  rw [hf, show rank (n.kids.map Nd.name) t = j from hj.symm] at hsea
  have Hs := Lib.hid hsea
  have Ht := Lib.hid htq
  have i1 : (0 : Int) ≤ (j : Int) := by omega
  have i2 : (j : Int) < (m : Int) := by omega
  have Hg : Hid (gk < w.heap.size) := World.block_lt_of_cell? w _ f0
  have Hp : Hid (p < w.heap.size) := lt_heap hrow
  clear hrow hsn hsk hFn hFk hpl hcn hck hkids tro hk1 hk2 hf hj hkj hcc hsea htq hq hm hk hr h1
  go_enter Try.func97, Try.ntmps97
  go_wp2_with fail
  refine Hs.out.mono ?_
  rintro e w1 ⟨rfl, hb1⟩
  have c40' := (hb1.cell (p := ⟨p, 40, none⟩) Hp.out).trans c40
  have f0' := (hb1.cell (p := ⟨gk, ok + j, none⟩) Hg.out).trans f0
  have Hb1 := Lib.hid hb1
  clear hb1 c40 f0
  go_wp2
  go_ret2
  exact ⟨q, rfl, Ht.out, Hb1.out⟩
set_option maxRecDepth 100000 in
theorem kid_none (F : Nat → Prop) (d : Nat) (w : World) (p : Nat) (n : Nd) (t : ByteArray) (ht : TreeAt w F d p n) (hr : Rising (n.kids.map Nd.name)) (hc : n.cnt ≤ 1000000000) (hk : kidOf n.kids t = none) :
    Calls Try.prog 97 #[.pointer (some ⟨p, 0, none⟩), .string t] w fun e w' => e = .returned (.tuple #[.pointer none, .bool false]) ∧ Below w.heap.size w w' := by
  cases d with
  | zero => exact ht.elim
  | succ d =>
  obtain ⟨h1, hv, hmw, an, ak, cn, ck, ps, hrow, hsn, hsk, hFn, hFk, hpl, hcn, hck, hkids⟩ := ht
  have hf := kidOf_none hk
  have hml : n.kids.length ≤ 1000000000 := by have := len_le_cnt n.kids; have := cnt_eq n; omega
  obtain ⟨m, hm⟩ : ∃ m, m = n.kids.length := ⟨_, rfl⟩
  rw [← hm] at hrow hsn hsk hml
  have tro := trow_at (o := 0) hv (rangeAt_row hrow)
  simp only [Nat.zero_add] at tro
  have c39 := tro.2.2.1
  have hsea := search_any w (n.kids.map Nd.name) t an m cn hsn (by rw [List.length_map]; exact hm.symm) hr (by omega)
  rw [hf] at hsea
  have Hs := Lib.hid hsea
  clear hrow hsn hsk hFn hFk hpl hcn hck hkids tro hf hsea hm hk hr h1
  go_enter Try.func97, Try.ntmps97
  go_wp2_with fail
  refine Hs.out.mono ?_
  rintro e w1 ⟨rfl, hb1⟩
  have Hb1 := Lib.hid hb1
  clear hb1
  go_wp2
  go_ret2
  exact ⟨rfl, Hb1.out⟩
/-- The subtree behind names. -/
def subOf : Nd → List ByteArray → Option Nd
  | n, [] => some n
  | n, t :: l => (kidOf n.kids t).bind fun k => subOf k l
/-- Is what stands above the last name a directory, all the way? -/
def wayOf : Nd → List ByteArray → Bool
  | _, [] => true
  | n, [_] => decide (n.v.kind = 1)
  | n, t :: u :: l => match kidOf n.kids t with | none => false | some k => decide (n.v.kind = 1) && wayOf k (u :: l)
theorem kidOf_cnt {n k : Nd} {t : ByteArray} (h : kidOf n.kids t = some k) : k.cnt < n.cnt := by
  have h1 := cnt_get (kidOf_some h).1
  have := cnt_eq n
  omega
theorem kidOf_ris {n k : Nd} {t : ByteArray} (hr : n.ris) (h : kidOf n.kids t = some k) : k.ris := by
  rw [ris_eq] at hr
  exact risAll_get hr.2 (kidOf_some h).1
set_option maxHeartbeats 2000000 in
set_option maxRecDepth 100000 in
/-- Sub: a path that may be. -/
theorem sub_any (F : Nat → Prop) (d : Nat) (w : World) (p : Nat) (n : Nd) (s : ByteArray) (ht : TreeAt w F d p n) (hr : n.ris) (hc : n.cnt ≤ 1000000000) (hs : s.size ≤ 1000000000) (h0 : splitErr s 64 = 0) :
    Calls Try.prog 51 #[.pointer (some ⟨p, 0, none⟩), .string s] w fun e w' => ((subOf n (pieces s) = none ∧ e = .returned (.tuple #[.pointer none, .bool false])) ∨ (∃ k q, subOf n (pieces s) = some k ∧ e = .returned (.tuple #[.pointer (some ⟨q, 0, none⟩), .bool true]) ∧ TreeAt w' F d q k ∧ k.ris ∧ k.cnt ≤ n.cnt)) ∧ Below w.heap.size w w' := by
  have H := Lib.hid (split_ok w s 64 (by omega) hs h0)
  have Ht := Lib.hid (And.intro ht hr)
  obtain ⟨L, hL⟩ : ∃ L, L = pieces s := ⟨_, rfl⟩
  rw [← hL] at H ⊢
  clear ht hr h0 hL
  go_enter Try.func51, Try.ntmps51
  go_wp2_with fail
  refine H.out.mono ?_
  rintro e w1 ⟨nl, a, c, rfl, hnl, hown, hb1, hfr⟩
  have Hnl := Lib.hid hnl
  have Hown := Lib.hid hown
  have Hb1 := Lib.hid hb1
  have hl63 := hown.2.1
  clear hnl hown hb1 hfr H
  go_wp2_with fail
  go_loopw [0, 21] (fun tp i wr => ∃ (j q : Nat) (m : Nd), j ≤ nl ∧ tp = .pointer (some ⟨q, 0, none⟩) ∧ i = .int .i64 j ∧ TreeAt wr F d q m ∧ m.ris ∧ m.cnt ≤ n.cnt ∧ subOf n L = subOf m (L.drop j) ∧ Below w1.heap.size w1 wr) (fun _ i _ => nl - (intOf i).toNat)
  case atStart => exact ⟨0, p, n, Nat.zero_le _, rfl, rfl, Ht.out.1.below Hb1.out, Ht.out.2, Nat.le_refl _, rfl, Below.refl _ _⟩
  case round =>
    obtain ⟨j, q, m, hj, rfl, rfl, htm, hrm, hcm, hsub, hbe⟩ := hrel
    have Htm := Lib.hid (And.intro htm (And.intro hrm (And.intro hcm hsub)))
    have Hbe := Lib.hid hbe
    clear htm hrm hsub hbe
    by_cases hlt : j < nl
    · have hjl : j < L.length := by rw [Hnl.out]; exact hlt
      obtain ⟨x, hx⟩ : ∃ x, x = L[j]'hjl := ⟨_, rfl⟩
      obtain ⟨g, off, rfl, _, hcc⟩ := (Hown.out.sl.below Hbe.out).open_ (by simp [strs]; omega)
      have f0 := hcc j (.string x) (by simp [strs, hx, List.getElem?_eq_getElem hjl])
      have i1 : (0 : Int) ≤ (j : Int) := by omega
      have i2 : (j : Int) < (nl : Int) := by omega
      have Hx := Lib.hid (show subOf m (L.drop j) = (kidOf m.kids x).bind fun k => subOf k (L.drop (j + 1)) by rw [List.drop_eq_getElem_cons hjl, subOf, hx])
      have htw := Htm.out.1
      have hmr := Htm.out.2.1
      rw [ris_eq] at hmr
      obtain ⟨d', rfl⟩ : ∃ d', d = d' + 1 := by
        cases d with
        | zero => exact htw.elim
        | succ d => exact ⟨d, rfl⟩
      clear hcc hx hjl
      cases hk : kidOf m.kids x with
      | none =>
        have Hk := Lib.hid (kid_none F _ wr q m x htw hmr.1 (Nat.le_trans hcm hc) hk)
        rw [hk] at Hx
        clear htw hmr hk
        go_wp2_with fail
        refine Hk.out.mono ?_
        rintro e w5 ⟨rfl, hb5⟩
        have Hb5 := Lib.hid (Hbe.out.trans (hb5.mono Hbe.out.size))
        clear hb5
        go_wp2
        go_ret2
        exact ⟨.inl ⟨by rw [Htm.out.2.2.2, Hx.out]; rfl, rfl⟩, below_on Hb1.out Hb5.out⟩
      | some k =>
        have Hk := Lib.hid (kid_some F d' wr q m k x htw hmr.1 (Nat.le_trans hcm hc) hk)
        have Hkk := Lib.hid (And.intro (kidOf_ris Htm.out.2.1 hk) (kidOf_cnt hk))
        rw [hk] at Hx
        have Hks := Lib.hid hk
        clear htw hmr hk
        go_wp2_with fail
        refine Hk.out.mono ?_
        rintro e w5 ⟨q5, rfl, ht5, hb5⟩
        have Hbk := Lib.hid hb5
        have Hb5 := Lib.hid (Hbe.out.trans (hb5.mono Hbe.out.size))
        have Ht5 := Lib.hid ht5
        clear hb5 ht5
        go_wp2
        go_roundw
        case rel =>
          exact ⟨j + 1, q5, k, hlt, rfl, by go_num, (Ht5.out.below Hbk.out).deeper (Nat.le_succ _), Hkk.out.1, Nat.le_trans (Nat.le_of_lt Hkk.out.2) hcm, by rw [Htm.out.2.2.2, Hx.out]; rfl, Hb5.out⟩
        case measure => simp [intOf]; omega
    · obtain rfl : j = nl := by omega
      have Hx := Lib.hid (show subOf m (L.drop j) = some m by rw [List.drop_of_length_le (by rw [Hnl.out]; exact Nat.le_refl _)]; rfl)
      clear hlt
      go_wp2
      go_ret2
      exact ⟨.inr ⟨m, q, by rw [Htm.out.2.2.2, Hx.out], rfl, Htm.out.1, Htm.out.2.1, Htm.out.2.2.1⟩, below_on Hb1.out Hbe.out⟩
set_option maxRecDepth 100000 in
theorem sub_bad (w : World) (p : Addr) (s : ByteArray) (hs : s.size ≤ 1000000000) (h0 : splitErr s 64 ≠ 0) :
    Calls Try.prog 51 #[.pointer (some p), .string s] w fun e w' => e = .returned (.tuple #[.pointer none, .bool false]) ∧ Below w.heap.size w w' := by
  have H := Lib.hid (split_bad w s 64 (by omega) hs h0)
  obtain ⟨z, hz⟩ : ∃ z, z = splitErr s 64 := ⟨_, rfl⟩
  rw [← hz] at H h0
  have hz0 : (z != 0) = true := by rw [bne_iff_ne]; exact h0
  clear hz h0
  go_enter Try.func51, Try.ntmps51
  go_wp2_with fail
  refine H.out.mono ?_
  rintro e w1 ⟨rfl, hb1⟩
  have Hb1 := Lib.hid hb1
  clear hb1 H
  go_wp2
  go_ret2
  exact ⟨rfl, Hb1.out⟩
/-- What stands at a path. -/
def subAt (n : Nd) (s : ByteArray) : Option Nd := if splitErr s 64 = 0 then subOf n (pieces s) else none
theorem subAt_any (F : Nat → Prop) (d : Nat) (w : World) (p : Nat) (n : Nd) (s : ByteArray) (ht : TreeAt w F d p n) (hr : n.ris) (hc : n.cnt ≤ 1000000000) (hs : s.size ≤ 1000000000) :
    Calls Try.prog 51 #[.pointer (some ⟨p, 0, none⟩), .string s] w fun e w' => ((subAt n s = none ∧ e = .returned (.tuple #[.pointer none, .bool false])) ∨ (∃ k q, subAt n s = some k ∧ e = .returned (.tuple #[.pointer (some ⟨q, 0, none⟩), .bool true]) ∧ TreeAt w' F d q k ∧ k.ris ∧ k.cnt ≤ n.cnt)) ∧ Below w.heap.size w w' := by
  by_cases h : splitErr s 64 = 0
  · have e : subAt n s = subOf n (pieces s) := by unfold subAt; rw [if_pos h]
    rw [e]
    exact sub_any F d w p n s ht hr hc hs h
  · have e : subAt n s = none := by unfold subAt; rw [if_neg h]
    rw [e]
    exact (sub_bad w _ s hs h).mono fun e w' ⟨h1, h2⟩ => ⟨.inl ⟨rfl, h1⟩, h2⟩
/-- No value. -/
def noVl : Vl := ⟨0, 0, 0, List.replicate 32 0⟩
theorem stuck_store {P : Program} {ops : Array Oper} {rest : List Oper} {o : Oper} {a : Act} {w : World} {Q : Exit → Act → World → Prop} (ty : TypeId) (x y : Operand) (ho : o.op = .store ty x y) (h : ∀ z : Nat, z = 0 → wpList P ops Q (o :: rest) a w) : wpList P ops Q (o :: rest) a w := h 0 rfl
theorem noVl_cells : noVl.cells.toArray = #[.int .i64 0, .int .i64 0, .int .i64 0, .int .u8 0, .int .u8 0, .int .u8 0, .int .u8 0, .int .u8 0, .int .u8 0, .int .u8 0, .int .u8 0, .int .u8 0, .int .u8 0, .int .u8 0, .int .u8 0, .int .u8 0, .int .u8 0, .int .u8 0, .int .u8 0, .int .u8 0, .int .u8 0, .int .u8 0, .int .u8 0, .int .u8 0, .int .u8 0, .int .u8 0, .int .u8 0, .int .u8 0, .int .u8 0, .int .u8 0, .int .u8 0, .int .u8 0, .int .u8 0, .int .u8 0, .int .u8 0] := by rfl
theorem noVl_wf : noVl.wf := by refine ⟨rfl, ?_, ?_, ?_⟩ <;> (show i64 0; constructor <;> decide)
theorem results_row_tmp {P : Program} {fn : Func} {p u : Tmp} {ty : TypeId} (h : fn.results = #[.cell p ty, .tmp u]) (tmps : Array Value) (w : World) (g : Nat) (t : TypeId) (cs : Array Value) (fr : Nat × Nat) (d : TypeDesc)
    (hp : tmps.getD p undef = .pointer (some ⟨g, 0, none⟩)) (hg : w.heap[g]? = some (.cells cs t fr))
    (hu : P.underlying ty = some d) (hd : (match d with | .struct _ | .array _ _ => true | _ => false) = true) (hi : (P.info? ty).map (·.size) = some cs.size) (v : Value) (hv : tmps.getD u undef = v) :
    (results fn tmps).run P w = .ok (.tuple #[.agg cs, v]) w := by
  rw [results_cell_tmp h, hp, hv]
  simp [asAddr, run_loadVar_row w g t ty cs fr d hg hu hd hi, Result.andThen]
theorem alloc_noVl (w : World) : (w.alloc (.cells #[.int .i64 0, .int .i64 0, .int .i64 0, .int .u8 0, .int .u8 0, .int .u8 0, .int .u8 0, .int .u8 0, .int .u8 0, .int .u8 0, .int .u8 0, .int .u8 0, .int .u8 0, .int .u8 0, .int .u8 0, .int .u8 0, .int .u8 0, .int .u8 0, .int .u8 0, .int .u8 0, .int .u8 0, .int .u8 0, .int .u8 0, .int .u8 0, .int .u8 0, .int .u8 0, .int .u8 0, .int .u8 0, .int .u8 0, .int .u8 0, .int .u8 0, .int .u8 0, .int .u8 0, .int .u8 0, .int .u8 0] 24)).heap[w.heap.size]? = some (.cells noVl.cells.toArray 24 (0, 0)) := heap_alloc_new _ _
set_option maxHeartbeats 2000000 in
set_option maxRecDepth 100000 in
/-- At: what stands at a path. -/
theorem at_any (F : Nat → Prop) (d : Nat) (w : World) (p : Nat) (n : Nd) (s : ByteArray) (ht : TreeAt w F d p n) (hr : n.ris) (hc : n.cnt ≤ 1000000000) (hs : s.size ≤ 1000000000) :
    Calls Try.prog 83 #[.pointer (some ⟨p, 0, none⟩), .string s] w fun e w' => e = .returned (.tuple #[.agg (((subAt n s).map Nd.v).getD noVl).cells.toArray, .bool (subAt n s).isSome]) ∧ Below w.heap.size w w' := by
  have Ht := Lib.hid (And.intro ht hr)
  clear ht hr
  go_enter Try.func83, Try.ntmps83
  go_wp2_with fail
  have hrow := alloc_noVl w
  have hbl := on_alloc (Below.refl _ w) (.cells #[.int .i64 0, .int .i64 0, .int .i64 0, .int .u8 0, .int .u8 0, .int .u8 0, .int .u8 0, .int .u8 0, .int .u8 0, .int .u8 0, .int .u8 0, .int .u8 0, .int .u8 0, .int .u8 0, .int .u8 0, .int .u8 0, .int .u8 0, .int .u8 0, .int .u8 0, .int .u8 0, .int .u8 0, .int .u8 0, .int .u8 0, .int .u8 0, .int .u8 0, .int .u8 0, .int .u8 0, .int .u8 0, .int .u8 0, .int .u8 0, .int .u8 0, .int .u8 0, .int .u8 0, .int .u8 0, .int .u8 0] 24)
  generalize w.alloc (.cells #[.int .i64 0, .int .i64 0, .int .i64 0, .int .u8 0, .int .u8 0, .int .u8 0, .int .u8 0, .int .u8 0, .int .u8 0, .int .u8 0, .int .u8 0, .int .u8 0, .int .u8 0, .int .u8 0, .int .u8 0, .int .u8 0, .int .u8 0, .int .u8 0, .int .u8 0, .int .u8 0, .int .u8 0, .int .u8 0, .int .u8 0, .int .u8 0, .int .u8 0, .int .u8 0, .int .u8 0, .int .u8 0, .int .u8 0, .int .u8 0, .int .u8 0, .int .u8 0, .int .u8 0, .int .u8 0, .int .u8 0] 24) = w1 at hrow hbl ⊢
  obtain ⟨B, hB⟩ : ∃ B, B = w.heap.size := ⟨_, rfl⟩
  rw [← hB] at hrow ⊢
  have hBw : w.heap.size ≤ B := by omega
  have Hrow := Lib.hid hrow
  have Hbl := Lib.hid hbl
  have HB := Lib.hid hB
  clear hrow hbl hB
  refine (subAt_any F d w1 p n s (Ht.out.1.below Hbl.out) Ht.out.2 hc hs).mono ?_
  rintro e w2 ⟨hcase, hb2⟩
  have Hb2 := Lib.hid (below_on Hbl.out hb2)
  have Hr2 := Lib.hid ((hb2.block B (lt_heap Hrow.out)).trans Hrow.out)
  clear hb2
  rcases hcase with ⟨hn, rfl⟩ | ⟨k, q, hk, rfl, htq, _, _⟩
  · have Hn := Lib.hid hn
    obtain ⟨Z, hZ⟩ : ∃ Z, Z = noVl.cells.toArray := ⟨_, rfl⟩
    have hbld : ∀ w, (Instr.build 24 #[]).run Try.prog w = .ok (.agg Z) w := fun w => by rw [hZ, noVl_cells]; exact run_build w _ _ _ (by kernel_rfl)
    have Hbld := Lib.hid hbld
    have HZ1 := Lib.hid (show Z.all (·.oneCell') = true by rw [hZ]; exact all_one noVl.cells_one)
    have HZ2 := Lib.hid (show Z.size = 35 by rw [hZ]; rfl)
    rw [← hZ] at Hr2
    have HZ := Lib.hid hZ
    clear hn hbld hZ
    go_wp2_with (first | (refine wpList_build_eq (by rfl) 24 #[] rfl #[] (by kernel_rfl) (.agg Z) (Hbld.out _) ?_) | (refine wpList_store_rowg rfl 24 (.tmp 4) (.tmp 19) rfl B Z rfl rfl 24 Z Hr2.out (by rw [HZ2.out]; kernel_rfl) rfl HZ1.out ?_))
    intro w3 hr3 hu3
    have H3 := Lib.hid (And.intro hr3 hu3)
    clear hr3 hu3
    go_wp2_with fail
    refine bodyPost_ret (results_row_tmp (P := Try.prog) Try.results83 _ _ B 24 Z (0, 0) _ rfl H3.out.1 Try.underlying24 rfl (by rw [HZ2.out]; kernel_rfl) (.bool false) rfl) rfl ⟨by rw [Hn.out, HZ.out]; rfl, ?_⟩
    exact Hb2.out.upd (Nat.le_refl _) H3.out.2 (fun b hb => by omega)
  · have Hk := Lib.hid hk
    have hkv : k.v.wf ∧ w2.rangeAt q 0 k.v.cells := by
      cases d with
      | zero => exact htq.elim
      | succ d =>
        obtain ⟨h1, hv, hmw, an, ak, cn, ck, ps, hrow, _⟩ := htq
        exact ⟨hv, (trow_at (o := 0) hv (rangeAt_row hrow)).1⟩
    have Hkv := Lib.hid hkv
    have hvl := Lib.hid (k.v.cells_length hkv.1)
    have hvs := Lib.hid (show k.v.cells.toArray.size = 35 by rw [List.size_toArray]; exact k.v.cells_length hkv.1)
    clear hk htq hkv
    go_wp2_with (first | (refine wpList_load_midg (by rfl) 24 (.tmp 17) rfl q 0 rfl k.v.cells _ Hkv.out.2 Try.underlying24 rfl (by rw [hvl.out]; kernel_rfl) ?_) | (refine wpList_store_rowg rfl 24 (.tmp 4) (.tmp 18) rfl B k.v.cells.toArray rfl rfl 24 noVl.cells.toArray Hr2.out (by rw [hvs.out]; kernel_rfl) (by rw [hvs.out]; rfl) (all_one k.v.cells_one) ?_))
    intro w3 hr3 hu3
    have H3 := Lib.hid (And.intro hr3 hu3)
    clear hr3 hu3
    go_wp2_with fail
    refine bodyPost_ret (results_row_tmp (P := Try.prog) Try.results83 _ _ B 24 k.v.cells.toArray (0, 0) _ rfl H3.out.1 Try.underlying24 rfl (by rw [hvs.out]; kernel_rfl) (.bool true) rfl) rfl ⟨by rw [Hk.out]; rfl, ?_⟩
    exact Hb2.out.upd (Nat.le_refl _) H3.out.2 (fun b hb => by omega)
theorem wayOf_one (n : Nd) (t : ByteArray) : wayOf n [t] = decide (n.v.kind = 1) := rfl
theorem wayOf_two (n : Nd) (t u : ByteArray) (l : List ByteArray) : wayOf n (t :: u :: l) = match kidOf n.kids t with | none => false | some k => decide (n.v.kind = 1) && wayOf k (u :: l) := rfl
theorem TreeAt.kind {F : Nat → Prop} {d : Nat} {w : World} {p : Nat} {n : Nd} (h : TreeAt w F d p n) : w.cell? ⟨p, 0, none⟩ = some (.int .i64 n.v.kind) := by
  cases d with
  | zero => exact h.elim
  | succ d =>
    obtain ⟨h1, hv, hmw, an, ak, cn, ck, ps, hrow, _⟩ := h
    exact (vl_at (o := 0) (trow_at (o := 0) hv (rangeAt_row hrow)).1).1
set_option maxHeartbeats 4000000 in
set_option maxRecDepth 100000 in
theorem way_any (F : Nat → Prop) (d : Nat) (w : World) (p : Nat) (n : Nd) (L : List ByteArray) (a : Option Addr) (nl c : Nat) (hsl : Sl w 1 (.slice a nl c) nl (strs L)) (hnl : L.length = nl) (hnc : nl ≤ c) (ht : TreeAt w F d p n) (hr : n.ris) (hc : n.cnt ≤ 1000000000) (hn2 : nl ≤ 1000000000) :
    Calls Try.prog 85 #[.pointer (some ⟨p, 0, none⟩), .slice a nl c] w fun e w' => e = .returned (.bool (wayOf n L)) ∧ Below w.heap.size w w' := by
  by_cases h0 : nl = 0
  · have hL : L = [] := List.eq_nil_of_length_eq_zero (by omega)
    subst h0
    have hw : wayOf n L = true := by rw [hL]; rfl
    rw [hw]
    clear hsl hnl ht hr hL hw
    go_enter Try.func85, Try.ntmps85
    go_wp2_with fail
    go_loopw [16] (fun i wr => i = .int .i64 0 ∧ wr = w) (fun _ _ => 0)
    case atStart => exact ⟨rfl, rfl⟩
    case round =>
      obtain ⟨rfl, hw⟩ := hrel
      obtain rfl := hw.symm
      go_wp2
      go_ret
      exact ⟨rfl, Below.refl _ _⟩
  · obtain ⟨M, rfl⟩ : ∃ M, nl = M + 1 := ⟨nl - 1, by omega⟩
    have Hsl := Lib.hid hsl
    have Hnl := Lib.hid hnl
    have Ht := Lib.hid (And.intro ht hr)
    clear hsl hnl ht hr h0
    obtain ⟨N, hN⟩ : ∃ N, N = M + 1 := ⟨_, rfl⟩
    rw [← hN] at Hsl Hnl hnc hn2 ⊢
    have m1 : IntKind.i64.wrap ((N : Int) - 1) = (M : Int) := by rw [IntWalk.i64_in _ (by omega)]; omega
    have m2 : (N : Int) - 1 = (M : Int) := by omega
    have m3 : (0 : Int) ≤ (M : Int) := by omega
    have m4 : (M : Int) ≤ (c : Int) := by omega
    have m5 : (if (M : Int) < 0 then (0 : Int) else (M : Int)) = (M : Int) := by rw [if_neg (by omega)]
    have m6 : ¬ (N : Int) = 0 := by omega
    have HN := Lib.hid hN
    clear hN
    go_enter Try.func85, Try.ntmps85
    go_wp2_with fail
    go_loopw [0, 16] (fun tp i wr => ∃ (j q : Nat) (m : Nd), j ≤ M ∧ tp = .pointer (some ⟨q, 0, none⟩) ∧ i = .int .i64 j ∧ TreeAt wr F d q m ∧ m.ris ∧ m.cnt ≤ n.cnt ∧ wayOf n L = wayOf m (L.drop j) ∧ Below w.heap.size w wr) (fun _ i _ => M - (intOf i).toNat)
    case atStart => exact ⟨0, p, n, Nat.zero_le _, rfl, rfl, Ht.out.1, Ht.out.2, Nat.le_refl _, rfl, Below.refl _ _⟩
    case round =>
      obtain ⟨j, q, m, hj, rfl, rfl, htm, hrm, hcm, hway, hbe⟩ := hrel
      have Htm := Lib.hid (And.intro htm (And.intro hrm (And.intro hcm hway)))
      have Hbe := Lib.hid hbe
      have fk := htm.kind
      have hq : q < wr.heap.size := htm.lt
      clear htm hrm hway hbe
      have hjl : j < L.length := by rw [Hnl.out, HN.out]; omega
      by_cases hlt : j < M
      · have hjl2 : j + 1 < L.length := by rw [Hnl.out, HN.out]; omega
        obtain ⟨x, hx⟩ : ∃ x, x = L[j]'hjl := ⟨_, rfl⟩
        obtain ⟨g, off, rfl, _, hcc⟩ := (Hsl.out.below Hbe.out).open_ (by simp [strs]; omega)
        have f0 := hcc j (.string x) (by simp [strs, hx, List.getElem?_eq_getElem hjl])
        have i1 : (0 : Int) ≤ (j : Int) := by omega
        have i2 : (j : Int) < (M : Int) := by omega
        have Hx := Lib.hid (show wayOf m (L.drop j) = (match kidOf m.kids x with | none => false | some k => decide (m.v.kind = 1) && wayOf k (L.drop (j + 1))) by rw [List.drop_eq_getElem_cons hjl, List.drop_eq_getElem_cons hjl2, wayOf_two, hx])
        have htw := Htm.out.1
        have hmr := Htm.out.2.1
        rw [ris_eq] at hmr
        obtain ⟨d', rfl⟩ : ∃ d', d = d' + 1 := by
          cases d with
          | zero => exact htw.elim
          | succ d => exact ⟨d, rfl⟩
        clear hcc hx hjl hjl2
        cases hk : kidOf m.kids x with
        | none =>
          have Hk := Lib.hid (kid_none F _ wr q m x htw hmr.1 (Nat.le_trans hcm hc) hk)
          rw [hk] at Hx
          clear htw hmr hk
          go_wp2_with fail
          refine Hk.out.mono ?_
          rintro e w5 ⟨rfl, hb5⟩
          have Hb5 := Lib.hid (Hbe.out.trans (hb5.mono Hbe.out.size))
          clear hb5
          go_wp2
          go_ret
          exact ⟨by rw [Htm.out.2.2.2, Hx.out]; rfl, Hb5.out⟩
        | some k =>
          have Hk := Lib.hid (kid_some F d' wr q m k x htw hmr.1 (Nat.le_trans hcm hc) hk)
          have Hkk := Lib.hid (And.intro (kidOf_ris Htm.out.2.1 hk) (kidOf_cnt hk))
          rw [hk] at Hx
          clear htw hmr hk
          go_wp2_with fail
          refine Hk.out.mono ?_
          rintro e w5 ⟨q5, rfl, ht5, hb5⟩
          have fk5 := (hb5.cell (p := ⟨q, 0, none⟩) hq).trans fk
          have Hbk := Lib.hid hb5
          have Hb5 := Lib.hid (Hbe.out.trans (hb5.mono Hbe.out.size))
          have Ht5 := Lib.hid ht5
          clear hb5 ht5 fk
          by_cases hkd : m.v.kind = 1
          · have e1 : (m.v.kind != 1) = false := by rw [hkd]; rfl
            have Hx2 := Lib.hid (show wayOf m (L.drop j) = wayOf k (L.drop (j + 1)) by rw [Hx.out]; simp [hkd])
            clear hkd
            go_wp2
            go_roundw
            case rel =>
              exact ⟨j + 1, q5, k, hlt, rfl, by go_num, (Ht5.out.below Hbk.out).deeper (Nat.le_succ _), Hkk.out.1, Nat.le_trans (Nat.le_of_lt Hkk.out.2) hcm, by rw [Htm.out.2.2.2, Hx2.out], Hb5.out⟩
            case measure => simp [intOf]; omega
          · have e1 : (m.v.kind != 1) = true := by rw [bne_iff_ne]; exact hkd
            have Hx2 := Lib.hid (show wayOf m (L.drop j) = false by rw [Hx.out]; simp [hkd])
            clear hkd
            go_wp2
            go_ret
            exact ⟨by rw [Htm.out.2.2.2, Hx2.out]; rfl, Hb5.out⟩
      · obtain rfl : j = M := by omega
        have Hx := Lib.hid (show wayOf m (L.drop j) = decide (m.v.kind = 1) by
          rw [List.drop_eq_getElem_cons hjl, List.drop_of_length_le (by rw [Hnl.out, HN.out]; omega)]; rfl)
        have e1 : (m.v.kind == 1) = decide (m.v.kind = 1) := by rw [Bool.eq_iff_iff]; simp
        clear hlt hjl
        go_wp2
        go_ret
        exact ⟨by rw [Htm.out.2.2.2, Hx.out]; first | rfl | (simp; omega), Hbe.out⟩
end Go.Proofs.Ythnbinlllmkabaa
