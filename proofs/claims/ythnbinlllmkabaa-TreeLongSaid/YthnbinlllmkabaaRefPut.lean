/- The reference's put. (Written by gen_refput.py.) -/
import Derived.Test.YthnbinlllmkabaaRefSub
namespace Go.Proofs.Ythnbinlllmkabaa
open Go.RowKit
set_option linter.unusedVariables false
set_option linter.unusedSimpArgs false

/-- A thing, or no thing. -/
def oneR (r : Nd) : List Nd := if r.v.kind = 0 then [] else [r]
/-- Where what stays goes on. -/
def fromR (ks : List Nd) (t : ByteArray) : Nat := place ks t + (if found (ks.map Nd.name) t then 1 else 0)
/-- What the reference's put answers. -/
def putR : Nd → List ByteArray → Nd → Nd
  | n, [], s => s.named n.name
  | n, t :: l, s => .mk n.name n.v n.m (n.kids.take (place n.kids t) ++ (oneR (putR ((kidOr n.kids t).named t) l s) ++ n.kids.drop (fromR n.kids t)))
theorem putR_nil (n s : Nd) : putR n [] s = s.named n.name := by cases n; rfl
theorem putR_cons (n s : Nd) (t : ByteArray) (l : List ByteArray) : putR n (t :: l) s = .mk n.name n.v n.m (n.kids.take (place n.kids t) ++ (oneR (putR ((kidOr n.kids t).named t) l s) ++ n.kids.drop (fromR n.kids t))) := by cases n; rfl
theorem made3 (w : World) (A B C : Obj) : (((w.alloc A).alloc B).alloc C).heap[w.heap.size]? = some A ∧ (((w.alloc A).alloc B).alloc C).heap[w.heap.size + 1]? = some B ∧
    (((w.alloc A).alloc B).alloc C).heap[w.heap.size + 1 + 1]? = some C ∧ Below w.heap.size w (((w.alloc A).alloc B).alloc C) ∧ (((w.alloc A).alloc B).alloc C).heap.size = w.heap.size + 3 :=
  ⟨(alloc3 w A B C).1, (alloc3 w A B C).2.1, (alloc3 w A B C).2.2, on_alloc (on_alloc (on_alloc (Below.refl _ w) A) B) C, by simp⟩
theorem row_set40K (n : Nd) (ks : List Nd) (a a' : Option Addr) (c c' K : Nat) (hK : ks.length = K) (h : n.v.wf) : (n.row a c).toArray.setIfInBounds 40 (.slice a' K c') = ((Nd.mk n.name n.v n.m ks).row a' c').toArray := by
  have hl := n.v.cells_length h
  subst hK
  apply Array.ext'
  rw [Array.toList_setIfInBounds]
  show (.string n.name :: (n.v.cells ++ (mcells n.m ++ [Value.slice a n.kids.length c]))).set (39 + 1) _ = _
  rw [List.set_cons_succ, List.set_append_right _ _ (by omega), hl]
  rfl
theorem NodeIn.namedR {w : World} {F : Nat → Prop} {d : Nat} {n : Nd} {a : Option Addr} (h : NodeIn w F d n a) (s : ByteArray) (hs : s.size ≤ 9223372036854775807) : NodeIn w F d (n.named s) a := ⟨h.vwf, h.mwf, hs, h.ksz, h.kids⟩
theorem kidOr_named_parts {n : Nd} {t : ByteArray} (h : n.parts ≤ 1000000) (ht : t.size ≤ 255) : ((kidOr n.kids t).named t).parts ≤ 1000000 := by
  unfold kidOr
  cases hk : kidOf n.kids t with
  | none =>
    rw [parts_eq]
    show 1 + t.size + 0 ≤ _
    omega
  | some k =>
    obtain ⟨h1, h2⟩ := List.getElem?_eq_some_iff.1 (kidOf_some hk).1
    have h3 := partsAll_get h1
    have h4 := parts_eq n
    rw [h2] at h3
    have h5 : k.named t = k := by rw [← (kidOf_some hk).2.1]; cases k; rfl
    show (k.named t).parts ≤ _
    rw [h5]
    omega
theorem fromR_le (ks : List Nd) (t : ByteArray) : place ks t ≤ fromR ks t ∧ fromR ks t ≤ ks.length := by
  have h := place_le ks t
  unfold fromR
  cases hf : found (ks.map Nd.name) t with
  | false => constructor <;> simp <;> omega
  | true =>
    unfold found at hf
    have h2 := of_decide_eq_true hf
    rw [List.getElem?_map] at h2
    have h3 : place ks t < ks.length := by
      by_cases hc : place ks t < ks.length
      · exact hc
      · have : (ks[rank (ks.map Nd.name) t]?) = none := List.getElem?_eq_none (by unfold place at hc; omega)
        rw [this] at h2; cases h2
    constructor <;> simp <;> omega
theorem found_kid {ks : List Nd} {t : ByteArray} (h : found (ks.map Nd.name) t = true) : ∃ x, kidOf ks t = some x := by
  cases hk : kidOf ks t with
  | none => rw [kidOf_none hk] at h; cases h
  | some x => exact ⟨x, rfl⟩
theorem found_no {ks : List Nd} {t : ByteArray} (h : found (ks.map Nd.name) t = false) : kidOf ks t = none := by
  cases hk : kidOf ks t with
  | none => rfl
  | some x => rw [(kidOf_some hk).2.2] at h; cases h
theorem CopySt.doneR {w2 wr wz : World} {d k : Nat} {a3 : Option Addr} {c3 : Nat} {ks : List Nd} {al : List (Option Addr × Nat)} (h : CopySt w2 wr d k a3 c3 ks al) (hu : Upd (fun b => b < w2.heap.size) wr wz) : CopySt w2 wz d k a3 c3 ks al := by
  refine ⟨h.out.kept hu (fun b hb => ?_), (h.nodes.kept hu (fun b hb => ?_)).mono (fun b hb _ => ⟨hb.1, hb.2⟩), h.n3⟩
  · have := h.n3 b hb; omega
  · have := hb.1; omega
def PutRAt (l : List ByteArray) : Prop := ∀ (F : Nat → Prop) (d e : Nat) (w : World) (n s : Nd) (a sa al : Option Addr) (c sc nl cl : Nat), NodeIn w F d n a → NodeIn w F e s sa → (∀ b, F b → b < w.heap.size) → n.parts ≤ 1000000 → s.parts ≤ 1000000 → Sl w 1 (.slice al nl cl) nl (strs l) → l.length = nl → nl ≤ cl → nl ≤ 1000000 → (∀ x ∈ l, x.size ≤ 255) →
  Calls Try.prog 89 #[.agg (n.row a c).toArray, .slice al nl cl, .agg (s.row sa sc).toArray] w fun e' w' => ∃ (a' : Option Addr) (c' : Nat), e' = .returned (.agg ((putR n l s).row a' c').toArray) ∧ NodeIn w' (fun b => w.heap.size ≤ b) (d + l.length + e) (putR n l s) a' ∧ Below w.heap.size w w'
theorem nd_cellR (w : World) (N : Nat) (n : Nd) (a : Option Addr) (c j : Nat) (hn : n.v.wf) (h : w.heap[N]? = some (.cells (n.row a c).toArray 30 (0, 0))) (hj : j < 41) : ∃ o, w.cell? ⟨N, j, none⟩ = some o := by
  refine ⟨(n.row a c)[j]'(by rw [row_len hn]; exact hj), ?_⟩
  rw [cell_of_row w N j _ _ _ h, List.getElem?_toArray]
  exact List.getElem?_eq_getElem _
set_option maxHeartbeats 8000000 in
set_option maxRecDepth 100000 in
theorem putR_ok0 : PutRAt [] := by
  intro F d e w n s a sa al c sc nl cl hn hs hF hpt hsp hsl hnl hnc hn1 hxs
  obtain rfl : nl = 0 := by rw [← hnl]; rfl
  have h41 := Lib.hid (row_len (a := a) (c := c) hn.vwf)
  have s41 := Lib.hid (row_len (a := sa) (c := sc) hs.vwf)
  have Hn0 := Lib.hid hn
  have Hs0 := Lib.hid hs
  go_enter Try.func89, Try.ntmps89
  go_upto_region 1 with fail
  obtain ⟨hb3, hb5, hres, hbl, hsz⟩ := made3 w (.cells (n.row a c).toArray 30) (.cells (s.row sa sc).toArray 30) (.cells #[.string ⟨#[]⟩, .int .i64 0, .int .i64 0, .int .i64 0, .int .u8 0, .int .u8 0, .int .u8 0, .int .u8 0, .int .u8 0, .int .u8 0, .int .u8 0, .int .u8 0, .int .u8 0, .int .u8 0, .int .u8 0, .int .u8 0, .int .u8 0, .int .u8 0, .int .u8 0, .int .u8 0, .int .u8 0, .int .u8 0, .int .u8 0, .int .u8 0, .int .u8 0, .int .u8 0, .int .u8 0, .int .u8 0, .int .u8 0, .int .u8 0, .int .u8 0, .int .u8 0, .int .u8 0, .int .u8 0, .int .u8 0, .int .u8 0, .int .i64 0, .int .i64 0, .int .i64 0, .int .i64 0, .slice none 0 0] 30)
  generalize ((w.alloc (.cells (n.row a c).toArray 30)).alloc (.cells (s.row sa sc).toArray 30)).alloc (.cells #[.string ⟨#[]⟩, .int .i64 0, .int .i64 0, .int .i64 0, .int .u8 0, .int .u8 0, .int .u8 0, .int .u8 0, .int .u8 0, .int .u8 0, .int .u8 0, .int .u8 0, .int .u8 0, .int .u8 0, .int .u8 0, .int .u8 0, .int .u8 0, .int .u8 0, .int .u8 0, .int .u8 0, .int .u8 0, .int .u8 0, .int .u8 0, .int .u8 0, .int .u8 0, .int .u8 0, .int .u8 0, .int .u8 0, .int .u8 0, .int .u8 0, .int .u8 0, .int .u8 0, .int .u8 0, .int .u8 0, .int .u8 0, .int .u8 0, .int .i64 0, .int .i64 0, .int .i64 0, .int .i64 0, .slice none 0 0] 30) = w2 at hb3 hb5 hres hbl hsz ⊢
  obtain ⟨Z, hZ⟩ : ∃ Z : Array Value, Z = #[.string ⟨#[]⟩, .int .i64 0, .int .i64 0, .int .i64 0, .int .u8 0, .int .u8 0, .int .u8 0, .int .u8 0, .int .u8 0, .int .u8 0, .int .u8 0, .int .u8 0, .int .u8 0, .int .u8 0, .int .u8 0, .int .u8 0, .int .u8 0, .int .u8 0, .int .u8 0, .int .u8 0, .int .u8 0, .int .u8 0, .int .u8 0, .int .u8 0, .int .u8 0, .int .u8 0, .int .u8 0, .int .u8 0, .int .u8 0, .int .u8 0, .int .u8 0, .int .u8 0, .int .u8 0, .int .u8 0, .int .u8 0, .int .u8 0, .int .i64 0, .int .i64 0, .int .i64 0, .int .i64 0, .slice none 0 0] := ⟨_, rfl⟩
  obtain ⟨B3, hB3⟩ : ∃ B, B = w.heap.size := ⟨_, rfl⟩
  obtain ⟨B5, hB5⟩ : ∃ B, B = w.heap.size + 1 := ⟨_, rfl⟩
  obtain ⟨R, hR⟩ : ∃ B, B = w.heap.size + 1 + 1 := ⟨_, rfl⟩
  have hZs := Lib.hid (show Z.size = 41 by rw [hZ]; rfl)
  rw [← hZ, ← hR] at hres
  rw [← hB5] at hb5
  rw [← hB3] at hb3
  (try rw [World.size_alloc])
  (try rw [World.size_alloc])
  rw [← hR, ← hB5, ← hB3]
  have hw3 : w.heap.size ≤ B3 := by omega
  have hwR : w.heap.size ≤ R := by omega
  have h35 : B3 ≠ B5 := by omega
  have h3R : B3 ≠ R := by omega
  have hR3 : R ≠ B3 := by omega
  have h3w : B3 < w2.heap.size := by omega
  have h5w : B5 < w2.heap.size := by omega
  have hRw : R < w2.heap.size := by omega
  have hww : w.heap.size ≤ w2.heap.size := by omega
  have H3 := Lib.hid hb3
  have H5 := Lib.hid hb5
  have HR := Lib.hid hres
  have Hbl := Lib.hid hbl
  have Hn := Lib.hid (Hn0.out.below hbl)
  have Hs := Lib.hid (Hs0.out.below hbl)
  have f0 : w2.cell? ⟨B3, 0, none⟩ = some (.string n.name) := by
    have h := (nrow_at (o := 0) hn.vwf (rangeAt_row hb3)).1
    simpa using h
  clear hb3 hb5 hres hbl hsz hZ hB3 hB5 hR hn hs Hn0 Hs0
  clear hsl hxs
  go_wp2_with (refine wpList_load_midg (by rfl) 30 (.tmp 5) rfl B5 0 rfl (s.row sa sc) _ (rangeAt_row H5.out) Try.underlying30 rfl (by rw [s41.out]; kernel_rfl) ?_)
  refine (plain_ok F e w2 s sa sc Hs.out (fun b hb => Nat.lt_of_lt_of_le (hF b hb) hww) hsp).mono ?_
  rintro e3 w3 ⟨a3, c3, rfl, hn3, hb3⟩
  have Hn3 := Lib.hid hn3
  have H33 := Lib.hid ((hb3.block B3 h3w).trans H3.out)
  have HR3 := Lib.hid ((hb3.block R hRw).trans HR.out)
  have Hbl3 := Lib.hid (below_on Hbl.out hb3)
  have hw23 : w2.heap.size ≤ w3.heap.size := hb3.size
  obtain ⟨E, hE⟩ : ∃ E : Array Value, E = ((s.named ⟨#[]⟩).row a3 c3).toArray := ⟨_, rfl⟩
  have Es := Lib.hid (show E.size = 41 by rw [hE, List.size_toArray]; exact row_len hn3.vwf)
  have Eo := Lib.hid (show E.all (·.oneCell') = true by rw [hE]; exact all_one (nrow_one _ _ _ _ _ _))
  have HE := Lib.hid hE
  have h41s := Lib.hid (show (n.row a c).toArray.size = 41 by rw [List.size_toArray]; exact h41.out)
  rw [← hE]
  clear hE hn3 hb3 f0 H3 HR
  go_wp2_with (refine wpList_store_rowg rfl 30 (.tmp 3) (.tmp 20) rfl B3 E rfl rfl 30 (n.row a c).toArray H33.out (by rw [Es.out]; kernel_rfl) (by rw [Es.out, h41s.out]) Eo.out ?_)
  intro w4 hr4 hu4
  rw [HE.out] at hr4
  have f4 : w4.cell? ⟨B3, 0, none⟩ = some (.string ⟨#[]⟩) := by
    have h := (nrow_at (o := 0) (show (s.named ⟨#[]⟩).v.wf from Hn3.out.vwf) (rangeAt_row hr4)).1
    show w4.cell? ⟨B3, 0, none⟩ = some (.string (s.named ⟨#[]⟩).name)
    simpa using h
  have z4 := frozen_of_row w4 B3 0 _ _ hr4
  have hs4 := heap_setCell_same w4 B3 0 _ _ (.string n.name) hr4
  rw [row_set0] at hs4
  have hu5 : Upd (fun b => b = B3) w4 (w4.setCell ⟨B3, 0, none⟩ (.string n.name)) := (Upd.refl _ _).setCell _ _ (fun _ => rfl)
  have hu35 := hu4.trans hu5
  have HR4 := Lib.hid (hu4.at_ HR3.out hR3)
  go_upto_region 5 with fail
  generalize w4.setCell ⟨B3, 0, none⟩ (.string n.name) = w5 at hs4 hu5 hu35 ⊢
  have H35 := Lib.hid (show w5.heap[B3]? = some (.cells ((s.named n.name).row a3 c3).toArray 30 (0, 0)) from hs4)
  have HR5 := Lib.hid (hu5.at_ HR4.out hR3)
  have Hu5 := Lib.hid hu35
  obtain ⟨G, hG⟩ : ∃ G : Array Value, G = ((s.named n.name).row a3 c3).toArray := ⟨_, rfl⟩
  have G41 := Lib.hid (row_len (n := s.named n.name) (a := a3) (c := c3) Hn3.out.vwf)
  have Gs := Lib.hid (show G.size = 41 by rw [hG, List.size_toArray]; exact G41.out)
  have Go_ := Lib.hid (show G.all (·.oneCell') = true by rw [hG]; exact all_one (nrow_one _ _ _ _ _ _))
  have HG := Lib.hid hG
  clear hG hs4 hu5 hu35 f4 z4 hr4 hu4
  go_wp2_with (first | (refine wpList_load_midg (by rfl) 30 (.tmp 3) rfl B3 0 rfl ((s.named n.name).row a3 c3) _ (rangeAt_row H35.out) Try.underlying30 rfl (by rw [G41.out]; kernel_rfl) ?_; rw [← HG.out]) | (refine wpList_store_rowg rfl 30 (.tmp 6) (.tmp 23) rfl R G rfl rfl 30 Z HR5.out (by rw [Gs.out]; kernel_rfl) (by rw [Gs.out, hZs.out]) Go_.out ?_))
  intro wz hrz huz
  go_wp2
  refine bodyPost_ret (results_cell_row (P := Try.prog) Try.results89 _ _ R 30 G (0, 0) _ rfl hrz Try.underlying30 rfl (by rw [Gs.out]; kernel_rfl)) rfl ⟨a3, c3, by rw [HG.out, putR_nil], ?_, (Hbl3.out.upd (Nat.le_refl _) Hu5.out (fun b hb => by omega)).upd (Nat.le_refl _) huz (fun b hb => by omega)⟩
  rw [putR_nil]
  have hk := ((Hn3.out.kept Hu5.out (fun b hb e => by have e' : b = B3 := e; have hb' : w2.heap.size ≤ b := hb; omega)).kept huz (fun b hb e => by have e' : b = R := e; have hb' : w2.heap.size ≤ b := hb; omega)).mono (G := fun b => w.heap.size ≤ b) (fun b hb _ => by have hb' : w2.heap.size ≤ b := hb; omega)
  exact NodeIn.deeper (show NodeIn wz (fun b => w.heap.size ≤ b) e (s.named n.name) a3 from ⟨hk.vwf, hk.mwf, Hn.out.nsz, hk.ksz, hk.kids⟩) (by omega)
set_option maxHeartbeats 20000000 in
set_option maxRecDepth 100000 in
theorem putR_step (t : ByteArray) (l : List ByteArray) (ih : PutRAt l) : PutRAt (t :: l) := by
  intro F d e w n s a sa al c sc nl cl hn hs hF hpt hsp hsl hnl hnc hn1 hxs
  obtain ⟨i0, hi, hz0, hz1, hz2⟩ := info_parts info_nodeF
  obtain ⟨m, hm⟩ : ∃ m, m = n.kids.length := ⟨_, rfl⟩
  have hme : m ≤ 1000000 := by have h1 := partsAll_len n.kids; have := parts_eq n; omega
  have Hm := Lib.hid hm
  have Hpt0 := Lib.hid hpt
  have Hpt := Lib.hid (show partsAll n.kids ≤ 1000000 by have := parts_eq n; omega)
  obtain ⟨nm, rfl⟩ : ∃ nm, nl = nm + 1 := ⟨l.length, by rw [← hnl]; rfl⟩
  have Hnm := Lib.hid (show l.length = nm by simpa using hnl)
  have Hxs := Lib.hid hxs
  have ht255 : t.size ≤ 255 := hxs t (by simp)
  have Ih := Lib.hid ih
  obtain ⟨g, off, hal, _, hcc⟩ := hsl.open_ (by simp [strs])
  subst hal
  have f1w : w.cell? ⟨g, off, none⟩ = some (.string t) := hcc 0 (.string t) rfl
  have hgw : g < w.heap.size := World.block_lt_of_cell? w _ f1w
  obtain ⟨ab, _, hcb, _, hsb, _⟩ := hsl.cut Try.underlying71 (fun _ => by kernel_rfl) 1 (nm + 1) (by omega) (Nat.le_refl _) hnc
  have q1 : ∀ w, (Instr.sliceAt 71 (.slice (some ⟨g, off, none⟩) (nm + 1) cl) (some (.int .i64 1)) none none).run Try.prog w = .ok (.slice ab nm (cl - 1)) w := fun w => by
    have := hcb w 1 rfl rfl
    simpa using this
  have Hsb0 := Lib.hid (show Sl w 1 (.slice ab nm (cl - 1)) nm (strs l) by
    have h := hsb
    rw [Nat.add_sub_cancel] at h
    have hl2 : (strs l).length = nm := by simp [strs, Hnm.out]
    rw [show ((strs (t :: l)).drop (1 * 1)).take (nm * 1) = strs l by rw [Nat.mul_one, Nat.mul_one, ← hl2]; exact List.take_length (l := strs l)] at h
    exact h)
  clear hcc hcb hsb hm hpt hxs hnl ih hsl
  have h41 := Lib.hid (row_len (a := a) (c := c) hn.vwf)
  have s41 := Lib.hid (row_len (a := sa) (c := sc) hs.vwf)
  have Hn0 := Lib.hid hn
  have Hs0 := Lib.hid hs
  go_enter Try.func89, Try.ntmps89
  go_upto_region 1 with fail
  obtain ⟨hb3, hb5, hres, hbl, hsz⟩ := made3 w (.cells (n.row a c).toArray 30) (.cells (s.row sa sc).toArray 30) (.cells #[.string ⟨#[]⟩, .int .i64 0, .int .i64 0, .int .i64 0, .int .u8 0, .int .u8 0, .int .u8 0, .int .u8 0, .int .u8 0, .int .u8 0, .int .u8 0, .int .u8 0, .int .u8 0, .int .u8 0, .int .u8 0, .int .u8 0, .int .u8 0, .int .u8 0, .int .u8 0, .int .u8 0, .int .u8 0, .int .u8 0, .int .u8 0, .int .u8 0, .int .u8 0, .int .u8 0, .int .u8 0, .int .u8 0, .int .u8 0, .int .u8 0, .int .u8 0, .int .u8 0, .int .u8 0, .int .u8 0, .int .u8 0, .int .u8 0, .int .i64 0, .int .i64 0, .int .i64 0, .int .i64 0, .slice none 0 0] 30)
  generalize ((w.alloc (.cells (n.row a c).toArray 30)).alloc (.cells (s.row sa sc).toArray 30)).alloc (.cells #[.string ⟨#[]⟩, .int .i64 0, .int .i64 0, .int .i64 0, .int .u8 0, .int .u8 0, .int .u8 0, .int .u8 0, .int .u8 0, .int .u8 0, .int .u8 0, .int .u8 0, .int .u8 0, .int .u8 0, .int .u8 0, .int .u8 0, .int .u8 0, .int .u8 0, .int .u8 0, .int .u8 0, .int .u8 0, .int .u8 0, .int .u8 0, .int .u8 0, .int .u8 0, .int .u8 0, .int .u8 0, .int .u8 0, .int .u8 0, .int .u8 0, .int .u8 0, .int .u8 0, .int .u8 0, .int .u8 0, .int .u8 0, .int .u8 0, .int .i64 0, .int .i64 0, .int .i64 0, .int .i64 0, .slice none 0 0] 30) = w2 at hb3 hb5 hres hbl hsz ⊢
  obtain ⟨Z, hZ⟩ : ∃ Z : Array Value, Z = #[.string ⟨#[]⟩, .int .i64 0, .int .i64 0, .int .i64 0, .int .u8 0, .int .u8 0, .int .u8 0, .int .u8 0, .int .u8 0, .int .u8 0, .int .u8 0, .int .u8 0, .int .u8 0, .int .u8 0, .int .u8 0, .int .u8 0, .int .u8 0, .int .u8 0, .int .u8 0, .int .u8 0, .int .u8 0, .int .u8 0, .int .u8 0, .int .u8 0, .int .u8 0, .int .u8 0, .int .u8 0, .int .u8 0, .int .u8 0, .int .u8 0, .int .u8 0, .int .u8 0, .int .u8 0, .int .u8 0, .int .u8 0, .int .u8 0, .int .i64 0, .int .i64 0, .int .i64 0, .int .i64 0, .slice none 0 0] := ⟨_, rfl⟩
  obtain ⟨B3, hB3⟩ : ∃ B, B = w.heap.size := ⟨_, rfl⟩
  obtain ⟨B5, hB5⟩ : ∃ B, B = w.heap.size + 1 := ⟨_, rfl⟩
  obtain ⟨R, hR⟩ : ∃ B, B = w.heap.size + 1 + 1 := ⟨_, rfl⟩
  have hZs := Lib.hid (show Z.size = 41 by rw [hZ]; rfl)
  rw [← hZ, ← hR] at hres
  rw [← hB5] at hb5
  rw [← hB3] at hb3
  (try rw [World.size_alloc])
  (try rw [World.size_alloc])
  rw [← hR, ← hB5, ← hB3]
  have hw3 : w.heap.size ≤ B3 := by omega
  have hwR : w.heap.size ≤ R := by omega
  have h35 : B3 ≠ B5 := by omega
  have h3R : B3 ≠ R := by omega
  have hR3 : R ≠ B3 := by omega
  have h3w : B3 < w2.heap.size := by omega
  have h5w : B5 < w2.heap.size := by omega
  have hRw : R < w2.heap.size := by omega
  have hww : w.heap.size ≤ w2.heap.size := by omega
  have H3 := Lib.hid hb3
  have H5 := Lib.hid hb5
  have HR := Lib.hid hres
  have Hbl := Lib.hid hbl
  have Hn := Lib.hid (Hn0.out.below hbl)
  have Hs := Lib.hid (Hs0.out.below hbl)
  have f0 : w2.cell? ⟨B3, 0, none⟩ = some (.string n.name) := by
    have h := (nrow_at (o := 0) hn.vwf (rangeAt_row hb3)).1
    simpa using h
  have sinf : (Try.prog.info? 30).map (·.size) = some (s.row sa sc).length := by rw [s41.out]; kernel_rfl
  have inf41 : (Try.prog.info? 30).map (·.size) = some (n.row a c).length := by rw [h41.out]; kernel_rfl
  have und41 := Try.underlying30
  clear hb3 hb5 hres hbl hsz hZ hB3 hB5 hR hn hs Hn0 Hs0
  obtain ⟨p, hp⟩ : ∃ p, p = place n.kids t := ⟨_, rfl⟩
  obtain ⟨fd, hfd⟩ : ∃ b, b = found (n.kids.map Nd.name) t := ⟨_, rfl⟩
  obtain ⟨q, hq⟩ : ∃ q, q = fromR n.kids t := ⟨_, rfl⟩
  have hpq := fromR_le n.kids t
  rw [← hp, ← hq, ← Hm.out] at hpq
  have hqe : q = p + (if fd = true then 1 else 0) := by rw [hq, hp, hfd]; rfl
  have Hpl0 := refPlace_ok F d w2.drew n t a c (Hn.out.kept ((Upd.refl (fun _ => False) w2).drew) (fun _ _ => id)) Hpt0.out
  rw [← hp, ← hfd] at Hpl0
  have Hplc := Lib.hid Hpl0
  have Hp := Lib.hid hp
  have Hq := Lib.hid hq
  have Hfd := Lib.hid hfd
  have Hqe := Lib.hid hqe
  have hqm : q ≤ m := hpq.2
  have hpq1 : p ≤ q := hpq.1
  have hpm : p ≤ m := Nat.le_trans hpq.1 hpq.2
  clear Hpl0 hp hq hfd hqe f0 hpq
  have f1 : w2.cell? ⟨g, off, none⟩ = some (.string t) := (Hbl.out.cell hgw).trans f1w
  have b1 : (0 : Int) < (nm : Int) + 1 := by omega
  have b2 : ((nm : Int) + 1 == 0) = false := beq_f (by omega)
  have hgw2 : g < w2.heap.size := by omega
  go_upto_region 6 with fail
  refine wp_region_noPanic ?_
  refine wp_region_held_drew (S := (fun w' => w'.rangeAt B3 0 (n.row a c) ∧ w'.cell? ⟨g, off, none⟩ = some (.string t))) (by kernel_rfl) ?_ (fun hHeld => ?_)
  · (try dsimp only); (first | assumption | exact ⟨rangeAt_row H3.out, f1⟩ | exact ⟨rangeAt_row ((Hb3.out.block B3 h3w).trans H3.out), (Hb3.out.cell hgw2).trans f1⟩)
  refine' wpAnyH_take (i := 0) (v := _) rfl (by kernel_rfl) (by kernel_rfl) (by kernel_rfl) (fun _ _ _ h => h) (yieldsIf_load_mid (by rfl) _ _ rfl _ _ rfl _ _ ?hS0 ?hu0 ?hd0 ?hi0) (by assumption) ?rest1
  case hS0 => (intro w hSw; (try dsimp only at hSw); go_split_ands; assumption)
  case hu0 => assumption
  case hd0 => rfl
  case hi0 => first | assumption | (simp only [*]; done)
  (try simp only [List.getElem_toArray, List.getElem_cons_succ, List.getElem_cons_zero, Act.put, List.setIfInBounds_toArray, List.set_cons_zero, List.set_cons_succ])
  refine wpAnyH_take (i := 1) (v := ?_) rfl (by kernel_rfl) (by kernel_rfl) (by kernel_rfl) (fun _ _ _ h => h) (Or.inl ⟨by rfl, ?_⟩) (by assumption) ?_
  rotate_left
  · intro w hSw; (try dsimp only at hSw); go_simp; (try with_reducible rfl)
  (try simp only [List.getElem_toArray, List.getElem_cons_succ, List.getElem_cons_zero, Act.put, List.setIfInBounds_toArray, List.set_cons_zero, List.set_cons_succ])
  refine wpAnyH_take (i := 2) (v := ?_) rfl (by kernel_rfl) (by kernel_rfl) (by kernel_rfl) (fun _ _ _ h => h) (Or.inl ⟨by rfl, ?_⟩) (by assumption) ?_
  rotate_left
  · intro w hSw; (try dsimp only at hSw); go_simp; (try with_reducible rfl)
  (try simp only [List.getElem_toArray, List.getElem_cons_succ, List.getElem_cons_zero, Act.put, List.setIfInBounds_toArray, List.set_cons_zero, List.set_cons_succ])
  refine wpAnyH_take (i := 3) (v := ?_) rfl (by kernel_rfl) (by kernel_rfl) (by kernel_rfl) (fun _ _ _ h => h) (Or.inl ⟨by rfl, ?_⟩) (by assumption) ?_
  rotate_left
  · intro w hSw; (try dsimp only at hSw); go_simp; (try with_reducible rfl)
  (try simp only [List.getElem_toArray, List.getElem_cons_succ, List.getElem_cons_zero, Act.put, List.setIfInBounds_toArray, List.set_cons_zero, List.set_cons_succ])
  refine wpAnyH_ready (rs := [4]) (by kernel_rfl) (by simp) ?_
  refine AllReadyH.cons rfl (fun K hK => ?_) ?_
  rotate_left
  · exact AllReadyH.nil
  go_simp
  refine Hplc.out.mono ?_; rintro e3 w3 ⟨rfl, hb3⟩; have Hb3 := Lib.hid (below_on (on_drew (Below.refl w2.heap.size w2)) hb3); clear hb3
  (try go_wp2_with fail)
  refine hK.out _ _ ?_ (fun hHeld => ?_)
  · (try dsimp only); (first | assumption | exact ⟨rangeAt_row H3.out, f1⟩ | exact ⟨rangeAt_row ((Hb3.out.block B3 h3w).trans H3.out), (Hb3.out.cell hgw2).trans f1⟩)
  clear hK K
  (try simp only [List.getElem_toArray, List.getElem_cons_succ, List.getElem_cons_zero, Act.put, List.setIfInBounds_toArray, List.set_cons_zero, List.set_cons_succ])
  refine wpAnyH_take (i := 5) (v := ?_) rfl (by kernel_rfl) (by kernel_rfl) (by kernel_rfl) (fun _ _ _ h => h) (Or.inl ⟨by rfl, ?_⟩) (by assumption) ?_
  rotate_left
  · intro w hSw; (try dsimp only at hSw); go_simp; (try with_reducible rfl)
  (try simp only [List.getElem_toArray, List.getElem_cons_succ, List.getElem_cons_zero, Act.put, List.setIfInBounds_toArray, List.set_cons_zero, List.set_cons_succ])
  refine wpAnyH_take (i := 6) (v := ?_) rfl (by kernel_rfl) (by kernel_rfl) (by kernel_rfl) (fun _ _ _ h => h) (Or.inl ⟨by rfl, ?_⟩) (by assumption) ?_
  rotate_left
  · intro w hSw; (try dsimp only at hSw); go_simp; (try with_reducible rfl)
  (try simp only [List.getElem_toArray, List.getElem_cons_succ, List.getElem_cons_zero, Act.put, List.setIfInBounds_toArray, List.set_cons_zero, List.set_cons_succ])
  refine wpAnyH_take (i := 7) (v := ?_) rfl (by kernel_rfl) (by kernel_rfl) (by kernel_rfl) (fun _ _ _ h => h) (Or.inl ⟨by rfl, ?_⟩) (by assumption) ?_
  rotate_left
  · intro w hSw; (try dsimp only at hSw); go_simp; (try with_reducible rfl)
  (try simp only [List.getElem_toArray, List.getElem_cons_succ, List.getElem_cons_zero, Act.put, List.setIfInBounds_toArray, List.set_cons_zero, List.set_cons_succ])
  refine wpAnyH_take (i := 8) (v := ?_) rfl (by kernel_rfl) (by kernel_rfl) (by kernel_rfl) (fun _ _ _ h => h) (Or.inl ⟨by rfl, ?_⟩) (by assumption) ?_
  rotate_left
  · intro w hSw; (try dsimp only at hSw); go_simp; (try with_reducible rfl)
  (try simp only [List.getElem_toArray, List.getElem_cons_succ, List.getElem_cons_zero, Act.put, List.setIfInBounds_toArray, List.set_cons_zero, List.set_cons_succ])
  refine wpAnyH_take (i := 9) (v := ?_) rfl (by kernel_rfl) (by kernel_rfl) (by kernel_rfl) (fun _ _ _ h => h) (Or.inl ⟨by rfl, ?_⟩) (by assumption) ?_
  rotate_left
  · intro w hSw; (try dsimp only at hSw); go_simp; (try with_reducible rfl)
  (try simp only [List.getElem_toArray, List.getElem_cons_succ, List.getElem_cons_zero, Act.put, List.setIfInBounds_toArray, List.set_cons_zero, List.set_cons_succ])
  refine wpAnyH_done (by kernel_rfl) ?_ _
  refine NoPanic.normal ?_
  clear hHeld
  have Hb23 := Hb3
  have H33 := Lib.hid ((Hb23.out.block B3 h3w).trans H3.out)
  have H53 := Lib.hid ((Hb23.out.block B5 h5w).trans H5.out)
  have HR3 := Lib.hid ((Hb23.out.block R hRw).trans HR.out)
  have hw23 : w2.heap.size ≤ w3.heap.size := Hb23.out.size
  have h33 : B3 < w3.heap.size := by omega
  have h53 : B5 < w3.heap.size := by omega
  have hR3' : R < w3.heap.size := by omega
  have hw03 : w.heap.size ≤ w3.heap.size := by omega
  have Hb03 := Lib.hid (below_on Hbl.out Hb23.out)
  have Hs3 := Lib.hid (Hs.out.below Hb23.out)
  have Hsb := Lib.hid (Hsb0.out.below Hb03.out)
  have f1c : ∀ w', Below w3.heap.size w3 w' → w'.cell? ⟨g, off, none⟩ = some (.string t) := fun w' hb => (hb.cell (show g < w3.heap.size by omega)).trans ((Hb03.out.cell hgw).trans f1w)
  have F1c := Lib.hid f1c
  clear f1 f1w H3 H5 HR Hplc f1c
  go_wp2_with fail
  go_loopw [10, 11] (fun v i wr => ∃ (k : Nat) (a3 : Option Addr) (c3 : Nat) (al2 : List (Option Addr × Nat)), k ≤ p ∧ i = .int .i64 k ∧ v = .slice a3 k c3 ∧ CopySt w3 wr (d + l.length + e) k a3 c3 (n.kids.take k) al2 ∧ Below w3.heap.size w3 wr) (fun _ i _ => p - (intOf i).toNat)
  case atStart => exact ⟨0, none, 0, [], Nat.zero_le _, rfl, rfl, ⟨Own.nil _ _ _, ⟨rfl, fun i k a c h => by simp at h⟩, fun b hb => by simp [Value.ownBlock] at hb⟩, Below.refl _ _⟩
  case round =>
    obtain ⟨k, a3, c3, al2, hk, rfl, rfl, hst, hbe⟩ := hrel
    have Hst := Lib.hid hst
    have Hbe := Lib.hid hbe
    clear hst hbe
    by_cases hlt : k < p
    · have hlt' : k < m := by omega
      have b3 : (k : Int) < (p : Int) := by omega
      obtain ⟨d', hd⟩ : ∃ e, d = e + 1 := by
        cases d with
        | zero => exfalso; have h0 : n.kids = [] := Hn.out.kids; have := Hm.out; rw [h0] at this; simp at this; omega
        | succ e => exact ⟨e, rfl⟩
      have hkn := Hn.out.kids
      rw [hd] at hkn
      have hkm : k < n.kids.length := by rw [← Hm.out]; exact hlt'
      obtain ⟨g', off', a', c', hae, hF', hr, hni⟩ := ((hkn.below Hb23.out).below Hbe.out).at (i := k) hkm
      obtain ⟨x, hx⟩ : ∃ x, x = n.kids[k]'hkm := ⟨_, rfl⟩
      rw [← hx] at hr hni
      have f40 : wr.cell? ⟨B3, 40, none⟩ = some (.slice (some ⟨g', off', none⟩) m c) := by
        have h := (nrow_at (o := 0) Hn.out.vwf (rangeAt_row ((Hbe.out.block B3 h33).trans H33.out))).2.2.2
        simp only [Nat.zero_add] at h
        rw [h, ← Hm.out, hae]
      have Hr := Lib.hid (And.intro hr hni)
      have Hx := Lib.hid hx
      have hvwf := Lib.hid (row_len (a := a') (c := c') hni.vwf)
      have hx32 := Lib.hid hni.vwf.1
      have i1 : (0 : Int) ≤ (k : Int) := by omega
      have i2 : (k : Int) < (m : Int) := by omega
      have hx6 : x.parts ≤ 1000000 := by rw [hx]; exact Nat.le_trans (partsAll_get _) Hpt.out
      have hws := Hbe.out.size
      have Hcp := Lib.hid (copy_ok d' F wr x a' c' hni (fun b hb => Nat.lt_of_lt_of_le (hF b hb) (by omega)) hx6)
      have Hdd := Lib.hid (show d' ≤ (d + l.length + e) by omega)
      obtain ⟨ksf, hksf⟩ : ∃ z, z = n.kids.take k := ⟨_, rfl⟩
      have hst2 := Hst.out
      rw [← hksf] at hst2
      have Hst2 := Lib.hid hst2
      have Hksf := Lib.hid hksf
      clear hr hni hx hkn hd hae hksf hst2
      go_wp2_with (refine wpList_load_midg (by rfl) 30 (.tmp 41) rfl g' (off' + k * 41) rfl (x.row a' c') _ Hr.out.1 Try.underlying30 rfl (by rw [hvwf.out]; kernel_rfl) ?_)
      refine Hcp.out.mono ?_
      rintro e w5 ⟨ax, cx, rfl, hxn, hb5⟩
      have Hxn := Lib.hid (hxn.deeper Hdd.out)
      have Hb5 := Lib.hid hb5
      have hout5 := Lib.hid (Hst2.out.out.kept (Upd.below hb5 (fun _ => False)) (fun _ _ => id))
      clear hxn hb5 Hcp
      go_wp2_with (first | (refine wpList_buildSlice_eq (by rfl) 28 1 #[(0, .tmp 43)] rfl #[(0, .agg (x.row ax cx).toArray)] (by kernel_rfl) _ (build_node x ax cx hx32.out _) ?_) | (at_builtin; refine wpList_append_any rfl _ _ 28 rfl 30 i0 _ 41 128 Try.underlying28 hi hz0 hz1 hz2 rfl (by decide) (.slice a3 k c3) k (rowsOf ksf al2) (.slice (some ⟨w5.heap.size, 0, none⟩) 1 1) 1 (x.row ax cx) rfl rfl (hout5.out.kept ((Upd.refl (fun _ => False) w5).alloc _) (fun _ _ => id)) (Sl.made _ _ _ _ _ _ _ _ (List.toList_toArray ..) (by rw [row_len (show x.v.wf from Hr.out.2.vwf)]) (by omega)) (nrow_one _ _ _ _ _ _) (by omega) (by omega) ?_))
      intro a7 c7 w7 hown7 hgr7 hb7
      have hu57 : Upd (fun b => (Value.slice a3 k c3).ownBlock = some b) w5 w7 := Upd.grown ((Upd.refl _ w5).alloc _) hgr7 (fun b hb _ => hb)
      have hst7 := Hst2.out.next hws Hb5.out cx Hxn.out hown7 hgr7 (by simpa using hb7)
      have Hst7 := Lib.hid hst7
      have Hbe7 := Lib.hid ((Hbe.out.upd (Nat.le_refl _) (Upd.below Hb5.out (fun _ => False)) (fun b hb => hb.elim)).upd (Nat.le_refl _) hu57 (fun b hb => Hst2.out.n3 b hb))
      clear hown7 hgr7 hb7 hu57 hst7 f40
      go_wp2
      go_roundw
      case rel =>
        refine ⟨k + 1, a7, c7, al2 ++ [(ax, cx)], hlt, by go_num, rfl, ?_, Hbe7.out⟩
        rw [List.take_succ_eq_append_getElem (by rw [← Hm.out]; exact hlt'), ← Hksf.out, ← Hx.out]
        exact Hst7.out
      case measure => simp [intOf]; omega
    · obtain rfl : p = k := by omega
      clear hlt
      obtain ⟨D0, hD0⟩ : ∃ D : Array Value, D = (noNd.row none 0).toArray := ⟨_, rfl⟩
      have Ds := Lib.hid (show D0.size = 41 by rw [hD0]; rfl)
      have Do := Lib.hid (show D0.all (·.oneCell') = true by rw [hD0]; exact all_one (nrow_one _ _ _ _ _ _))
      have Hbd := Lib.hid (fun w => bld_noNd w)
      rw [← hD0] at Hbd
      have HD0 := Lib.hid hD0
      clear hD0
      go_wp2_with (first | (refine wpList_build_eq (by rfl) 30 #[] rfl #[] (by kernel_rfl) (.agg D0) (Hbd.out _) ?_) | (refine wpList_store_fresh rfl 30 _ _ rfl D0 rfl rfl (by rw [Ds.out]; kernel_rfl) (by rw [Ds.out]; rfl) Do.out ?_))
      intro w5 hs5 hr5 hb5
      obtain ⟨O, hO⟩ : ∃ O, O = wr.heap.size := ⟨_, rfl⟩
      rw [← hO] at hs5 hr5
      rw [← hO]
      have h3r := Hbe.out.size
      have hOw : wr.heap.size ≤ O := by omega
      have hO5 : O ≠ B5 := by omega
      have hOw0 : w.heap.size ≤ O := by omega
      have Hbr5 := Lib.hid hb5
      have HO5 := Lib.hid hr5
      have hOw5 : O < w5.heap.size := lt_heap hr5
      have f1c := F1c.out
      clear hs5 hr5 hb5 hO Hbd Do
      cases hfd : fd with
      | false =>
        have hke : kidOr n.kids t = noNd := by unfold kidOr; rw [found_no (by rw [← Hfd.out]; exact hfd)]; rfl
        have hqp : p = q := by rw [Hqe.out, hfd]; rfl
        obtain ⟨w6, hw6⟩ : ∃ w6, w6 = w5 := ⟨_, rfl⟩
        obtain ⟨y0, hy0⟩ : ∃ y0, y0 = noNd := ⟨_, rfl⟩
        obtain ⟨ax, hax⟩ : ∃ ax : Option Addr, ax = none := ⟨_, rfl⟩
        obtain ⟨cx, hcx⟩ : ∃ cx : Nat, cx = 0 := ⟨_, rfl⟩
        have HO6 := Lib.hid (show w6.heap[O]? = some (.cells (y0.row ax cx).toArray 30 (0, 0)) by rw [hw6, hy0, hax, hcx, ← HD0.out]; exact HO5.out)
        have Hy0 := Lib.hid (show NodeIn w6 F d y0 ax by rw [hy0, hax]; exact noNd_in _ _)
        have Hy0e := Lib.hid (show y0 = kidOr n.kids t by rw [hy0, hke])
        have Hbr6 := Lib.hid (show Below wr.heap.size wr w6 by rw [hw6]; exact Hbr5.out)
        have Hb36 := Lib.hid (Hbe.out.trans (Hbr6.out.mono Hbe.out.size))
        subst hw6 hqp
        clear hy0 hax hcx hke HO5 Hbr5
        subst hfd
        go_upto_region 16 with fail
        have f1r := f1c w6 Hb36.out
        obtain ⟨o1, fO⟩ := nd_cellR w6 O y0 ax cx 0 Hy0.out.vwf HO6.out (by omega)
        have zO := frozen_of_row w6 O 0 _ _ HO6.out
        have hsO := heap_setCell_same w6 O 0 _ _ (.string t) HO6.out
        rw [row_set0] at hsO
        have huO : Upd (fun b => b = O) w6 (w6.setCell ⟨O, 0, none⟩ (.string t)) := (Upd.refl _ _).setCell _ _ (fun _ => rfl)
        go_upto_region 17 with fail
        generalize w6.setCell ⟨O, 0, none⟩ (.string t) = w7 at hsO huO ⊢
        obtain ⟨y, hy⟩ : ∃ y, y = y0.named t := ⟨_, rfl⟩
        rw [← hy] at hsO
        have hyv : y.v.wf := by rw [hy]; exact Hy0.out.vwf
        have HO7 := Lib.hid hsO
        have hbr7 : Below wr.heap.size wr w7 := Hbr6.out.upd (Nat.le_refl _) huO (fun b hb => by have hb' : b = O := hb; omega)
        have Hbr7 := Lib.hid hbr7
        have Hb37 := Lib.hid (Hbe.out.trans (hbr7.mono Hbe.out.size))
        have Hy7 := Lib.hid (show NodeIn w7 F d y ax by rw [hy]; exact (Hy0.out.kept huO (fun b hb e => by have e' : b = O := e; have := hF b hb; omega)).namedR t (by omega))
        have HS7 := Lib.hid (show w7.drew.rangeAt B5 0 (s.row sa sc) from rangeAt_row ((Hb37.out.block B5 h53).trans H53.out))
        have Hyn := Lib.hid (show y = (kidOr n.kids t).named t by rw [hy, Hy0e.out])
        have hyp : y.parts ≤ 1000000 := by rw [Hyn.out]; exact kidOr_named_parts Hpt0.out ht255
        have hy41 := Lib.hid (row_len (a := ax) (c := cx) hyv)
        have hOw7 : O < w7.heap.size := lt_heap hsO
        have h37 : w3.heap.size ≤ w7.heap.size := Hb37.out.size
        have Hcall := Lib.hid (Ih.out F d e w7.drew y s ax sa ab cx sc nm (cl - 1) (Hy7.out.kept ((Upd.refl (fun _ => False) w7).drew) (fun _ _ => id)) ((Hs3.out.below Hb37.out).kept ((Upd.refl (fun _ => False) w7).drew) (fun _ _ => id)) (fun b hb => Nat.lt_of_lt_of_le (hF b hb) (show w.heap.size ≤ w7.heap.size by omega)) hyp hsp ((Hsb.out.kept (Upd.below Hb37.out (fun _ => False)) (fun _ _ _ => id)).kept ((Upd.refl (fun _ => False) w7).drew) (fun _ _ _ => id)) Hnm.out (by omega) (by omega) (fun x hx => Hxs.out x (by simp [hx])))
        clear hsO huO hy fO zO hyv hbr7 HO6 Hbr6 Hb36 f1r
        refine wp_region_noPanic ?_
        refine wp_region_held_drew (S := (fun w' => w'.rangeAt B5 0 (s.row sa sc))) (by kernel_rfl) HS7.out (fun hHeld => ?_)
        refine wpAnyH_take (i := 1) (v := ?_) rfl (by kernel_rfl) (by kernel_rfl) (by kernel_rfl) (fun _ _ _ h => h) (Or.inl ⟨by rfl, ?_⟩) (by assumption) ?_
        rotate_left
        · intro w hSw; (try dsimp only at hSw); go_simp; (try with_reducible rfl)
        (try simp only [List.getElem_toArray, List.getElem_cons_succ, List.getElem_cons_zero, Act.put, List.setIfInBounds_toArray, List.set_cons_zero, List.set_cons_succ])
        refine wpAnyH_take (i := 2) (v := ?_) rfl (by kernel_rfl) (by kernel_rfl) (by kernel_rfl) (fun _ _ _ h => h) (Or.inl ⟨by rfl, ?_⟩) (by assumption) ?_
        rotate_left
        · intro w hSw; (try dsimp only at hSw); go_simp; (try with_reducible rfl)
        (try simp only [List.getElem_toArray, List.getElem_cons_succ, List.getElem_cons_zero, Act.put, List.setIfInBounds_toArray, List.set_cons_zero, List.set_cons_succ])
        refine' wpAnyH_take (i := 3) (v := _) rfl (by kernel_rfl) (by kernel_rfl) (by kernel_rfl) (fun _ _ _ h => h) (yieldsIf_load_mid (by rfl) _ _ rfl _ _ rfl _ _ ?hS3x ?hu3x ?hd3x ?hi3x) (by assumption) ?rest1x
        case hS3x => (intro w hSw; (try dsimp only at hSw); assumption)
        case hu3x => exact und41
        case hd3x => rfl
        case hi3x => exact sinf
        (try simp only [List.getElem_toArray, List.getElem_cons_succ, List.getElem_cons_zero, Act.put, List.setIfInBounds_toArray, List.set_cons_zero, List.set_cons_succ])
        refine wpAnyH_ready (rs := [0]) (by kernel_rfl) (by simp) ?_
        refine AllReadyH.cons rfl (fun K hK => ?_) AllReadyH.nil
        rw [if_pos (by rfl)]
        refine wp_load_mid 30 (.tmp 12) rfl O 0 rfl (y.row ax cx) _ (show w7.drew.rangeAt O 0 (y.row ax cx) from rangeAt_row HO7.out) Try.underlying30 rfl (by rw [hy41.out]; kernel_rfl) ?_
        refine hK.out _ _ HS7.out (fun hHeld => ?_)
        clear hK K
        (try simp only [List.getElem_toArray, List.getElem_cons_succ, List.getElem_cons_zero, Act.put, List.setIfInBounds_toArray, List.set_cons_zero, List.set_cons_succ])
        refine wpAnyH_ready (rs := [4]) (by kernel_rfl) (by simp) ?_
        refine AllReadyH.cons rfl (fun K hK => ?_) AllReadyH.nil
        go_simp
        refine Hcall.out.mono ?_
        rintro e8 w8 ⟨a8, c8, rfl, hn8, hb8⟩
        have hb8' : Below w7.heap.size w7 w8 := below_on (on_drew (Below.refl w7.heap.size w7)) hb8
        have HO8 := Lib.hid ((hb8'.block O hOw7).trans HO7.out)
        have HS8 := Lib.hid (show w8.rangeAt B5 0 (s.row sa sc) from rangeAt_kept HS7.out (Upd.below hb8 (fun _ => False)) id)
        obtain ⟨r, hr⟩ : ∃ r, r = putR y l s := ⟨_, rfl⟩
        rw [← hr] at hn8
        rw [← hr]
        have Hn8 := Lib.hid (hn8.mono (G := fun b => w7.heap.size ≤ b ∧ b < w8.heap.size) (fun b hb hl => ⟨hb, hl⟩))
        have Hre := Lib.hid (show r = putR ((kidOr n.kids t).named t) l s by rw [hr, Hyn.out])
        have hr41 := Lib.hid (row_len (a := a8) (c := c8) hn8.vwf)
        have hr41s := Lib.hid (show (r.row a8 c8).toArray.size = 41 by rw [List.size_toArray]; exact row_len hn8.vwf)
        have Hth := Lib.hid (show w8.there O 0 41 from there_rowR HO8.out 0 41 (by rw [List.size_toArray, hy41.out]; omega))
        have hse := heap_setCells8 w8 O (y.row ax cx) (r.row a8 c8) HO8.out (by rw [hy41.out, hr41.out])
        have hsu := upd_setCells w8 O 0 (r.row a8 c8)
        obtain ⟨w9, hw9⟩ : ∃ w9, w9 = w8.setCells O 0 (r.row a8 c8).toArray.toList := ⟨_, rfl⟩
        rw [show w8.setCells O 0 (r.row a8 c8) = w9 from hw9.symm] at hse hsu
        have Hw9 := Lib.hid hw9
        have HO9 := Lib.hid hse
        have Hsu := Lib.hid hsu
        have HS9 := Lib.hid (show w9.rangeAt B5 0 (s.row sa sc) from rangeAt_kept HS8.out hsu (fun e => hO5 e.symm))
        have Hbr9 := Lib.hid ((Hbr7.out.trans (hb8'.mono Hbr7.out.size)).upd (Nat.le_refl _) hsu (fun b hb => by have hb' : b = O := hb; omega))
        have hw78 : w7.heap.size ≤ w8.heap.size := hb8'.size
        clear hb8 hb8' hn8 hr hw9 hse hsu Hcall
        (try go_wp2_with fail)
        refine hK.out _ _ HS8.out (fun hHeld => ?_)
        clear hK K
        (try simp only [List.getElem_toArray, List.getElem_cons_succ, List.getElem_cons_zero, Act.put, List.setIfInBounds_toArray, List.set_cons_zero, List.set_cons_succ])
        refine wpAnyH_ready (rs := [5]) (by kernel_rfl) (by simp) ?_
        refine AllReadyH.cons rfl (fun K hK => ?_) AllReadyH.nil
        rw [if_pos (by rfl)]
        refine wp_store_mid 30 (.tmp 12) (.tmp 63) rfl O 0 (r.row a8 c8).toArray rfl rfl (by rw [hr41s.out]; exact Hth.out) (by rw [hr41s.out]; kernel_rfl) (all_one (nrow_one _ _ _ _ _ _)) ?_
        rw [← Hw9.out]
        refine hK.out _ _ HS9.out (fun hHeld => ?_)
        clear hK K
        (try simp only [List.getElem_toArray, List.getElem_cons_succ, List.getElem_cons_zero, Act.put, List.setIfInBounds_toArray, List.set_cons_zero, List.set_cons_succ])
        refine wpAnyH_done (by kernel_rfl) ?_ _
        refine NoPanic.normal ?_
        clear hHeld
        have Hr9 := Lib.hid ((Hn8.out.kept Hsu.out (fun b hb e => by have e' : b = O := e; have := hb.1; omega)).mono (G := fun b => wr.heap.size ≤ b) (fun b hb _ => Nat.le_trans Hbr7.out.size hb.1))
        have fk : w9.cell? ⟨O, 1, none⟩ = some (.int .i64 r.v.kind) := by
          have h := (vl_at (nrow_at (o := 0) Hr9.out.vwf (rangeAt_row HO9.out)).2.1).1
          simpa using h
        have Hb39 := Lib.hid (Hbe.out.trans (Hbr9.out.mono Hbe.out.size))
        have hr32 := Lib.hid Hr9.out.vwf.1
        clear Hn8 HO8 HS8 HS9 Hsu Hw9 Hth HS7 HO7 Hy7
        by_cases hrk : r.v.kind = 0
        · have q1 : (r.v.kind != 0) = false := by rw [hrk]; rfl
          have Hpre := Lib.hid (show n.kids.take p = n.kids.take p ++ oneR r by unfold oneR; rw [if_pos hrk, List.append_nil])
          have hst0 := (Hst.out.doneR (Upd.below Hbr9.out (fun b => b < w3.heap.size)))
          rw [Hpre.out] at hst0
          have Hst0 := Lib.hid hst0
          have Hpl := Lib.hid (show (n.kids.take p ++ oneR r).length = p by rw [← Hpre.out, List.length_take, ← Hm.out]; omega)
          have hb39 := Hb39.out
          clear hst0 Hpre
          obtain ⟨pre, hpre⟩ : ∃ pre, pre = n.kids.take p ++ oneR r := ⟨_, rfl⟩
          rw [← hpre] at Hst0 Hpl
          have Hpred := Lib.hid hpre
          clear hpre
          obtain ⟨P2, hP2⟩ : ∃ P2, P2 = p := ⟨_, rfl⟩
          have hP2m : P2 ≤ m + 1 := by omega
          rw [← hP2] at Hst0 Hpl
          have HP2 := Lib.hid hP2
          clear hP2
          go_wp2_with fail
          clear fk q1 hrk
          have Hb39c := Lib.hid hb39
          clear hb39 Hst Hbe
          go_loopw [10, 13] (fun v i wr => ∃ (k K : Nat) (a3 : Option Addr) (c3 : Nat) (al2 : List (Option Addr × Nat)), p ≤ k ∧ k ≤ m ∧ i = .int .i64 k ∧ K = P2 + (k - p) ∧ v = .slice a3 K c3 ∧ CopySt w3 wr (d + l.length + e) K a3 c3 (pre ++ (n.kids.take k).drop p) al2 ∧ Below w3.heap.size w3 wr) (fun _ i _ => m - (intOf i).toNat)
          case atStart => exact ⟨p, P2, _, _, _, Nat.le_refl _, hqm, (by first | rfl | exact congrArg (Value.int .i64) (by omega)), by omega, by rw [HP2.out], by rw [show (n.kids.take p).drop p = [] by rw [List.drop_eq_nil_iff]; rw [List.length_take]; omega, List.append_nil]; exact Hst0.out, Hb39c.out⟩
          case round =>
            obtain ⟨k, K, a3, c3, al2, hqk, hk, rfl, hK, rfl, hst, hbe⟩ := hrel
            have Hst := Lib.hid hst
            have Hbe := Lib.hid hbe
            have HK := Lib.hid hK
            have hKm : K ≤ 3000000 := by omega
            clear hst hbe hK Hst0
            have f40 : wr.cell? ⟨B3, 40, none⟩ = some (.slice a m c) := by
              have h := (nrow_at (o := 0) Hn.out.vwf (rangeAt_row ((Hbe.out.block B3 h33).trans H33.out))).2.2.2
              simp only [Nat.zero_add] at h
              rw [h, ← Hm.out]
            by_cases hlt : k < m
            · have hlt' : k < m := hlt
              clear f40
              obtain ⟨d', hd⟩ : ∃ e, d = e + 1 := by
                cases d with
                | zero => exfalso; have h0 : n.kids = [] := Hn.out.kids; have := Hm.out; rw [h0] at this; simp at this; omega
                | succ e => exact ⟨e, rfl⟩
              have hkn := Hn.out.kids
              rw [hd] at hkn
              have hkm : k < n.kids.length := by rw [← Hm.out]; exact hlt'
              obtain ⟨g', off', a', c', hae, hF', hr, hni⟩ := ((hkn.below Hb23.out).below Hbe.out).at (i := k) hkm
              obtain ⟨x, hx⟩ : ∃ x, x = n.kids[k]'hkm := ⟨_, rfl⟩
              rw [← hx] at hr hni
              have f40 : wr.cell? ⟨B3, 40, none⟩ = some (.slice (some ⟨g', off', none⟩) m c) := by
                have h := (nrow_at (o := 0) Hn.out.vwf (rangeAt_row ((Hbe.out.block B3 h33).trans H33.out))).2.2.2
                simp only [Nat.zero_add] at h
                rw [h, ← Hm.out, hae]
              have Hr := Lib.hid (And.intro hr hni)
              have Hx := Lib.hid hx
              have hvwf := Lib.hid (row_len (a := a') (c := c') hni.vwf)
              have hx32 := Lib.hid hni.vwf.1
              have i1 : (0 : Int) ≤ (k : Int) := by omega
              have i2 : (k : Int) < (m : Int) := by omega
              have hx6 : x.parts ≤ 1000000 := by rw [hx]; exact Nat.le_trans (partsAll_get _) Hpt.out
              have hws := Hbe.out.size
              have Hcp := Lib.hid (copy_ok d' F wr x a' c' hni (fun b hb => Nat.lt_of_lt_of_le (hF b hb) (by omega)) hx6)
              have Hdd := Lib.hid (show d' ≤ (d + l.length + e) by omega)
              obtain ⟨ksf, hksf⟩ : ∃ z, z = pre ++ (n.kids.take k).drop p := ⟨_, rfl⟩
              have hst2 := Hst.out
              rw [← hksf] at hst2
              have Hst2 := Lib.hid hst2
              have Hksf := Lib.hid hksf
              clear hr hni hx hkn hd hae hksf hst2
              go_wp2_with (refine wpList_load_midg (by rfl) 30 (.tmp 84) rfl g' (off' + k * 41) rfl (x.row a' c') _ Hr.out.1 Try.underlying30 rfl (by rw [hvwf.out]; kernel_rfl) ?_)
              refine Hcp.out.mono ?_
              rintro e w5 ⟨ax, cx, rfl, hxn, hb5⟩
              have Hxn := Lib.hid (hxn.deeper Hdd.out)
              have Hb5 := Lib.hid hb5
              have hout5 := Lib.hid (Hst2.out.out.kept (Upd.below hb5 (fun _ => False)) (fun _ _ => id))
              clear hxn hb5 Hcp
              go_wp2_with (first | (refine wpList_buildSlice_eq (by rfl) 28 1 #[(0, .tmp 86)] rfl #[(0, .agg (x.row ax cx).toArray)] (by kernel_rfl) _ (build_node x ax cx hx32.out _) ?_) | (at_builtin; refine wpList_append_any rfl _ _ 28 rfl 30 i0 _ 41 128 Try.underlying28 hi hz0 hz1 hz2 rfl (by decide) (.slice a3 K c3) K (rowsOf ksf al2) (.slice (some ⟨w5.heap.size, 0, none⟩) 1 1) 1 (x.row ax cx) rfl rfl (hout5.out.kept ((Upd.refl (fun _ => False) w5).alloc _) (fun _ _ => id)) (Sl.made _ _ _ _ _ _ _ _ (List.toList_toArray ..) (by rw [row_len (show x.v.wf from Hr.out.2.vwf)]) (by omega)) (nrow_one _ _ _ _ _ _) (by omega) (by omega) ?_))
              intro a7 c7 w7 hown7 hgr7 hb7
              have hu57 : Upd (fun b => (Value.slice a3 K c3).ownBlock = some b) w5 w7 := Upd.grown ((Upd.refl _ w5).alloc _) hgr7 (fun b hb _ => hb)
              have hst7 := Hst2.out.next hws Hb5.out cx Hxn.out hown7 hgr7 (by simpa using hb7)
              have Hst7 := Lib.hid hst7
              have Hbe7 := Lib.hid ((Hbe.out.upd (Nat.le_refl _) (Upd.below Hb5.out (fun _ => False)) (fun b hb => hb.elim)).upd (Nat.le_refl _) hu57 (fun b hb => Hst2.out.n3 b hb))
              clear hown7 hgr7 hb7 hu57 hst7 f40
              go_wp2
              go_roundw
              case rel =>
                refine ⟨k + 1, K + 1, a7, c7, al2 ++ [(ax, cx)], by omega, hlt, by go_num, by have := HK.out; omega, rfl, ?_, Hbe7.out⟩
                rw [List.take_succ_eq_append_getElem (by rw [← Hm.out]; exact hlt), List.drop_append_of_le_length (by rw [List.length_take, ← Hm.out]; omega), ← List.append_assoc, ← Hksf.out, ← Hx.out]
                exact Hst7.out
              case measure => simp [intOf]; omega
            · obtain rfl : k = m := by omega
              clear hlt
              have hke : (n.kids.take k).drop p = n.kids.drop p := by rw [List.take_of_length_le (by rw [← Hm.out]; exact Nat.le_refl _)]
              have hs := Hst.out
              rw [hke] at hs
              obtain ⟨N9, hN9⟩ : ∃ N9, N9 = Nd.mk n.name n.v n.m (pre ++ n.kids.drop p) := ⟨_, rfl⟩
              have hKL : (pre ++ n.kids.drop p).length = K := by rw [List.length_append, Hpl.out, List.length_drop, ← Hm.out]; have := HK.out; omega
              have h3r := (Hbe.out.block B3 h33).trans H33.out
              have hRr := (Hbe.out.block R hR3').trans HR3.out
              have z40 := frozen_of_row wr B3 40 _ _ h3r
              have hs40 := heap_setCell_same wr B3 40 _ _ (.slice a3 K c3) h3r
              rw [row_set40K n (pre ++ n.kids.drop p) a a3 c c3 K hKL Hn.out.vwf, ← hN9] at hs40
              have hu1 : Upd (fun b => b = B3) wr (wr.setCell ⟨B3, 40, none⟩ (.slice a3 K c3)) := (Upd.refl _ _).setCell _ _ (fun _ => rfl)
              have hN9v : N9.v.wf := by rw [hN9]; exact Hn.out.vwf
              have HR9 := Lib.hid (hu1.at_ hRr hR3)
              have Hrow9 := Lib.hid (rangeAt_row hs40)
              have N41 := Lib.hid (row_len (n := N9) (a := a3) (c := c3) hN9v)
              obtain ⟨G, hG⟩ : ∃ G : Array Value, G = (N9.row a3 c3).toArray := ⟨_, rfl⟩
              have Gs := Lib.hid (show G.size = 41 by rw [hG, List.size_toArray]; exact N41.out)
              have Go_ := Lib.hid (show G.all (·.oneCell') = true by rw [hG]; exact all_one (nrow_one _ _ _ _ _ _))
              have HG := Lib.hid hG
              have Hs9 := Lib.hid hs
              have Hu1 := Lib.hid hu1
              have HN9 := Lib.hid hN9
              have HKL := Lib.hid hKL
              clear hke hs hs40 hu1 h3r hRr hG hN9 hKL hN9v
              go_wp2_with (first | (refine wpList_load_midg (by rfl) 30 (.tmp 3) rfl B3 0 rfl (N9.row a3 c3) _ Hrow9.out Try.underlying30 rfl (by rw [N41.out]; kernel_rfl) ?_; rw [← HG.out]) | (refine wpList_store_rowg rfl 30 (.tmp 6) (.tmp 91) rfl R G rfl rfl 30 Z HR9.out (by rw [Gs.out]; kernel_rfl) (by rw [Gs.out, hZs.out]) Go_.out ?_))
              intro wz hrz huz
              go_wp2
              have hput : putR n (t :: l) s = N9 := by rw [putR_cons, HN9.out, Hpred.out, Hre.out, ← Hp.out, ← Hq.out, List.append_assoc]
              have hK9 : N9.kids.length = K := by rw [HN9.out]; exact HKL.out
              refine bodyPost_ret (results_cell_row (P := Try.prog) Try.results89 _ _ R 30 G (0, 0) _ rfl hrz Try.underlying30 rfl (by rw [Gs.out]; kernel_rfl)) rfl ⟨a3, c3, by rw [HG.out, hput], ?_, ?_⟩
              · rw [hput]
                have hkids := CopySt.kids (w := w) (d := (d + l.length + e) + 1) Hs9.out hw03 ((Hu1.out.mono (fun b _ hb => by have hb' : b = B3 := hb; omega)).trans (huz.mono (fun b _ hb => by have hb' : b = R := hb; omega))) (fun h => absurd h (by omega))
                exact ⟨by rw [HN9.out]; exact Hn.out.vwf, by rw [HN9.out]; exact Hn.out.mwf, by rw [HN9.out]; exact Hn.out.nsz, by rw [hK9]; omega, by rw [HN9.out]; exact hkids.deeper (by show d + l.length + e + 1 ≤ d + (l.length + 1) + e; omega)⟩
              · exact ((Hb03.out.trans (Hbe.out.mono hw03)).upd (Nat.le_refl _) Hu1.out (fun b hb => by omega)).upd (Nat.le_refl _) huz (fun b hb => by omega)
        · have q1 : (r.v.kind != 0) = true := by rw [bne_iff_ne]; exact hrk
          have Hone := Lib.hid (show oneR r = [r] by unfold oneR; rw [if_neg hrk])
          have hout9 := Lib.hid (Hst.out.out.kept (Upd.below Hbr9.out (fun _ => False)) (fun _ _ => id))
          have HrD := Lib.hid Hr9.out
          go_wp2_with (first | (refine wpList_load_midg (by rfl) 30 (.tmp 12) rfl O 0 rfl (r.row a8 c8) _ (rangeAt_row HO9.out) Try.underlying30 rfl (by rw [hr41.out]; kernel_rfl) ?_) | (refine wpList_buildSlice_eq (by rfl) 28 1 #[(0, .tmp 69)] rfl #[(0, .agg (r.row a8 c8).toArray)] (by kernel_rfl) _ (build_node r a8 c8 hr32.out _) ?_) | (at_builtin; refine wpList_append_any rfl _ _ 28 rfl 30 i0 _ 41 128 Try.underlying28 hi hz0 hz1 hz2 rfl (by decide) (.slice a3 p c3) p (rowsOf (n.kids.take p) al2) (.slice (some ⟨w9.heap.size, 0, none⟩) 1 1) 1 (r.row a8 c8) rfl rfl (hout9.out.kept ((Upd.refl (fun _ => False) w9).alloc _) (fun _ _ => id)) (Sl.made _ _ _ _ _ _ _ _ (List.toList_toArray ..) (by rw [hr41.out]) (by omega)) (nrow_one _ _ _ _ _ _) (by omega) (by omega) ?_))
          intro a7 c7 w10 hown7 hgr7 hb7
          have hu57 : Upd (fun b => (Value.slice a3 p c3).ownBlock = some b) w9 w10 := Upd.grown ((Upd.refl _ w9).alloc _) hgr7 (fun b hb _ => hb)
          have hst7 := Hst.out.next (show w3.heap.size ≤ wr.heap.size from Hbe.out.size) Hbr9.out c8 HrD.out hown7 hgr7 (by simpa using hb7)
          rw [← Hone.out] at hst7
          have Hst0 := Lib.hid hst7
          have hb39 := Hb39.out.upd (Nat.le_refl _) hu57 (fun b hb => Hst.out.n3 b hb)
          have Hpl := Lib.hid (show (n.kids.take p ++ oneR r).length = p + 1 by rw [Hone.out, List.length_append, List.length_take, ← Hm.out]; show min p m + 1 = _; omega)
          clear hown7 hgr7 hb7 hu57 hst7 fk hout9
          obtain ⟨pre, hpre⟩ : ∃ pre, pre = n.kids.take p ++ oneR r := ⟨_, rfl⟩
          rw [← hpre] at Hst0 Hpl
          have Hpred := Lib.hid hpre
          clear hpre
          obtain ⟨P2, hP2⟩ : ∃ P2, P2 = p + 1 := ⟨_, rfl⟩
          have hP2m : P2 ≤ m + 1 := by omega
          rw [← hP2] at Hst0 Hpl
          have HP2 := Lib.hid hP2
          clear hP2
          go_wp2_with fail
          clear q1 hrk
          have Hb39c := Lib.hid hb39
          clear hb39 Hst Hbe
          go_loopw [10, 13] (fun v i wr => ∃ (k K : Nat) (a3 : Option Addr) (c3 : Nat) (al2 : List (Option Addr × Nat)), p ≤ k ∧ k ≤ m ∧ i = .int .i64 k ∧ K = P2 + (k - p) ∧ v = .slice a3 K c3 ∧ CopySt w3 wr (d + l.length + e) K a3 c3 (pre ++ (n.kids.take k).drop p) al2 ∧ Below w3.heap.size w3 wr) (fun _ i _ => m - (intOf i).toNat)
          case atStart => exact ⟨p, P2, _, _, _, Nat.le_refl _, hqm, (by first | rfl | exact congrArg (Value.int .i64) (by omega)), by omega, by rw [HP2.out], by rw [show (n.kids.take p).drop p = [] by rw [List.drop_eq_nil_iff]; rw [List.length_take]; omega, List.append_nil]; exact Hst0.out, Hb39c.out⟩
          case round =>
            obtain ⟨k, K, a3, c3, al2, hqk, hk, rfl, hK, rfl, hst, hbe⟩ := hrel
            have Hst := Lib.hid hst
            have Hbe := Lib.hid hbe
            have HK := Lib.hid hK
            have hKm : K ≤ 3000000 := by omega
            clear hst hbe hK Hst0
            have f40 : wr.cell? ⟨B3, 40, none⟩ = some (.slice a m c) := by
              have h := (nrow_at (o := 0) Hn.out.vwf (rangeAt_row ((Hbe.out.block B3 h33).trans H33.out))).2.2.2
              simp only [Nat.zero_add] at h
              rw [h, ← Hm.out]
            by_cases hlt : k < m
            · have hlt' : k < m := hlt
              clear f40
              obtain ⟨d', hd⟩ : ∃ e, d = e + 1 := by
                cases d with
                | zero => exfalso; have h0 : n.kids = [] := Hn.out.kids; have := Hm.out; rw [h0] at this; simp at this; omega
                | succ e => exact ⟨e, rfl⟩
              have hkn := Hn.out.kids
              rw [hd] at hkn
              have hkm : k < n.kids.length := by rw [← Hm.out]; exact hlt'
              obtain ⟨g', off', a', c', hae, hF', hr, hni⟩ := ((hkn.below Hb23.out).below Hbe.out).at (i := k) hkm
              obtain ⟨x, hx⟩ : ∃ x, x = n.kids[k]'hkm := ⟨_, rfl⟩
              rw [← hx] at hr hni
              have f40 : wr.cell? ⟨B3, 40, none⟩ = some (.slice (some ⟨g', off', none⟩) m c) := by
                have h := (nrow_at (o := 0) Hn.out.vwf (rangeAt_row ((Hbe.out.block B3 h33).trans H33.out))).2.2.2
                simp only [Nat.zero_add] at h
                rw [h, ← Hm.out, hae]
              have Hr := Lib.hid (And.intro hr hni)
              have Hx := Lib.hid hx
              have hvwf := Lib.hid (row_len (a := a') (c := c') hni.vwf)
              have hx32 := Lib.hid hni.vwf.1
              have i1 : (0 : Int) ≤ (k : Int) := by omega
              have i2 : (k : Int) < (m : Int) := by omega
              have hx6 : x.parts ≤ 1000000 := by rw [hx]; exact Nat.le_trans (partsAll_get _) Hpt.out
              have hws := Hbe.out.size
              have Hcp := Lib.hid (copy_ok d' F wr x a' c' hni (fun b hb => Nat.lt_of_lt_of_le (hF b hb) (by omega)) hx6)
              have Hdd := Lib.hid (show d' ≤ (d + l.length + e) by omega)
              obtain ⟨ksf, hksf⟩ : ∃ z, z = pre ++ (n.kids.take k).drop p := ⟨_, rfl⟩
              have hst2 := Hst.out
              rw [← hksf] at hst2
              have Hst2 := Lib.hid hst2
              have Hksf := Lib.hid hksf
              clear hr hni hx hkn hd hae hksf hst2
              go_wp2_with (refine wpList_load_midg (by rfl) 30 (.tmp 84) rfl g' (off' + k * 41) rfl (x.row a' c') _ Hr.out.1 Try.underlying30 rfl (by rw [hvwf.out]; kernel_rfl) ?_)
              refine Hcp.out.mono ?_
              rintro e w5 ⟨ax, cx, rfl, hxn, hb5⟩
              have Hxn := Lib.hid (hxn.deeper Hdd.out)
              have Hb5 := Lib.hid hb5
              have hout5 := Lib.hid (Hst2.out.out.kept (Upd.below hb5 (fun _ => False)) (fun _ _ => id))
              clear hxn hb5 Hcp
              go_wp2_with (first | (refine wpList_buildSlice_eq (by rfl) 28 1 #[(0, .tmp 86)] rfl #[(0, .agg (x.row ax cx).toArray)] (by kernel_rfl) _ (build_node x ax cx hx32.out _) ?_) | (at_builtin; refine wpList_append_any rfl _ _ 28 rfl 30 i0 _ 41 128 Try.underlying28 hi hz0 hz1 hz2 rfl (by decide) (.slice a3 K c3) K (rowsOf ksf al2) (.slice (some ⟨w5.heap.size, 0, none⟩) 1 1) 1 (x.row ax cx) rfl rfl (hout5.out.kept ((Upd.refl (fun _ => False) w5).alloc _) (fun _ _ => id)) (Sl.made _ _ _ _ _ _ _ _ (List.toList_toArray ..) (by rw [row_len (show x.v.wf from Hr.out.2.vwf)]) (by omega)) (nrow_one _ _ _ _ _ _) (by omega) (by omega) ?_))
              intro a7 c7 w7 hown7 hgr7 hb7
              have hu57 : Upd (fun b => (Value.slice a3 K c3).ownBlock = some b) w5 w7 := Upd.grown ((Upd.refl _ w5).alloc _) hgr7 (fun b hb _ => hb)
              have hst7 := Hst2.out.next hws Hb5.out cx Hxn.out hown7 hgr7 (by simpa using hb7)
              have Hst7 := Lib.hid hst7
              have Hbe7 := Lib.hid ((Hbe.out.upd (Nat.le_refl _) (Upd.below Hb5.out (fun _ => False)) (fun b hb => hb.elim)).upd (Nat.le_refl _) hu57 (fun b hb => Hst2.out.n3 b hb))
              clear hown7 hgr7 hb7 hu57 hst7 f40
              go_wp2
              go_roundw
              case rel =>
                refine ⟨k + 1, K + 1, a7, c7, al2 ++ [(ax, cx)], by omega, hlt, by go_num, by have := HK.out; omega, rfl, ?_, Hbe7.out⟩
                rw [List.take_succ_eq_append_getElem (by rw [← Hm.out]; exact hlt), List.drop_append_of_le_length (by rw [List.length_take, ← Hm.out]; omega), ← List.append_assoc, ← Hksf.out, ← Hx.out]
                exact Hst7.out
              case measure => simp [intOf]; omega
            · obtain rfl : k = m := by omega
              clear hlt
              have hke : (n.kids.take k).drop p = n.kids.drop p := by rw [List.take_of_length_le (by rw [← Hm.out]; exact Nat.le_refl _)]
              have hs := Hst.out
              rw [hke] at hs
              obtain ⟨N9, hN9⟩ : ∃ N9, N9 = Nd.mk n.name n.v n.m (pre ++ n.kids.drop p) := ⟨_, rfl⟩
              have hKL : (pre ++ n.kids.drop p).length = K := by rw [List.length_append, Hpl.out, List.length_drop, ← Hm.out]; have := HK.out; omega
              have h3r := (Hbe.out.block B3 h33).trans H33.out
              have hRr := (Hbe.out.block R hR3').trans HR3.out
              have z40 := frozen_of_row wr B3 40 _ _ h3r
              have hs40 := heap_setCell_same wr B3 40 _ _ (.slice a3 K c3) h3r
              rw [row_set40K n (pre ++ n.kids.drop p) a a3 c c3 K hKL Hn.out.vwf, ← hN9] at hs40
              have hu1 : Upd (fun b => b = B3) wr (wr.setCell ⟨B3, 40, none⟩ (.slice a3 K c3)) := (Upd.refl _ _).setCell _ _ (fun _ => rfl)
              have hN9v : N9.v.wf := by rw [hN9]; exact Hn.out.vwf
              have HR9 := Lib.hid (hu1.at_ hRr hR3)
              have Hrow9 := Lib.hid (rangeAt_row hs40)
              have N41 := Lib.hid (row_len (n := N9) (a := a3) (c := c3) hN9v)
              obtain ⟨G, hG⟩ : ∃ G : Array Value, G = (N9.row a3 c3).toArray := ⟨_, rfl⟩
              have Gs := Lib.hid (show G.size = 41 by rw [hG, List.size_toArray]; exact N41.out)
              have Go_ := Lib.hid (show G.all (·.oneCell') = true by rw [hG]; exact all_one (nrow_one _ _ _ _ _ _))
              have HG := Lib.hid hG
              have Hs9 := Lib.hid hs
              have Hu1 := Lib.hid hu1
              have HN9 := Lib.hid hN9
              have HKL := Lib.hid hKL
              clear hke hs hs40 hu1 h3r hRr hG hN9 hKL hN9v
              go_wp2_with (first | (refine wpList_load_midg (by rfl) 30 (.tmp 3) rfl B3 0 rfl (N9.row a3 c3) _ Hrow9.out Try.underlying30 rfl (by rw [N41.out]; kernel_rfl) ?_; rw [← HG.out]) | (refine wpList_store_rowg rfl 30 (.tmp 6) (.tmp 91) rfl R G rfl rfl 30 Z HR9.out (by rw [Gs.out]; kernel_rfl) (by rw [Gs.out, hZs.out]) Go_.out ?_))
              intro wz hrz huz
              go_wp2
              have hput : putR n (t :: l) s = N9 := by rw [putR_cons, HN9.out, Hpred.out, Hre.out, ← Hp.out, ← Hq.out, List.append_assoc]
              have hK9 : N9.kids.length = K := by rw [HN9.out]; exact HKL.out
              refine bodyPost_ret (results_cell_row (P := Try.prog) Try.results89 _ _ R 30 G (0, 0) _ rfl hrz Try.underlying30 rfl (by rw [Gs.out]; kernel_rfl)) rfl ⟨a3, c3, by rw [HG.out, hput], ?_, ?_⟩
              · rw [hput]
                have hkids := CopySt.kids (w := w) (d := (d + l.length + e) + 1) Hs9.out hw03 ((Hu1.out.mono (fun b _ hb => by have hb' : b = B3 := hb; omega)).trans (huz.mono (fun b _ hb => by have hb' : b = R := hb; omega))) (fun h => absurd h (by omega))
                exact ⟨by rw [HN9.out]; exact Hn.out.vwf, by rw [HN9.out]; exact Hn.out.mwf, by rw [HN9.out]; exact Hn.out.nsz, by rw [hK9]; omega, by rw [HN9.out]; exact hkids.deeper (by show d + l.length + e + 1 ≤ d + (l.length + 1) + e; omega)⟩
              · exact ((Hb03.out.trans (Hbe.out.mono hw03)).upd (Nat.le_refl _) Hu1.out (fun b hb => by omega)).upd (Nat.le_refl _) huz (fun b hb => by omega)
      | true =>
        obtain ⟨x, hkx⟩ := found_kid (ks := n.kids) (t := t) (by rw [← Hfd.out]; exact hfd)
        have hqp : q = p + 1 := by rw [Hqe.out, hfd]; rfl
        obtain ⟨hat, _, _⟩ := kidOf_some hkx
        rw [← Hp.out] at hat
        have hpk : p < n.kids.length := (List.getElem?_eq_some_iff.1 hat).1
        have hxe := (List.getElem?_eq_some_iff.1 hat).2
        have hko : kidOr n.kids t = x := by unfold kidOr; rw [hkx]; rfl
        obtain ⟨d', hd⟩ : ∃ e, d = e + 1 := by
          cases d with
          | zero => exfalso; have h0 : n.kids = [] := Hn.out.kids; rw [h0] at hpk; simp at hpk
          | succ e => exact ⟨e, rfl⟩
        have hkn := Hn.out.kids
        rw [hd] at hkn
        obtain ⟨g', off', a', c', hae, hF', hr, hni⟩ := (((hkn.below Hb23.out).below Hbe.out).below Hbr5.out).at (i := p) hpk
        rw [hxe] at hr hni
        have f40 : w5.cell? ⟨B3, 40, none⟩ = some (.slice (some ⟨g', off', none⟩) m c) := by
          have h := (nrow_at (o := 0) Hn.out.vwf (rangeAt_row ((Hbr5.out.block B3 (Nat.lt_of_lt_of_le h33 h3r)).trans ((Hbe.out.block B3 h33).trans H33.out)))).2.2.2
          simp only [Nat.zero_add] at h
          rw [h, ← Hm.out, hae]
        have i1 : (0 : Int) ≤ (p : Int) := by omega
        have i2 : (p : Int) < (m : Int) := by have := Hm.out; omega
        have Hr := Lib.hid hr
        have Hni := Lib.hid (hni.deeper (show d' ≤ d by omega))
        have hx41 := Lib.hid (row_len (a := a') (c := c') hni.vwf)
        obtain ⟨E, hE⟩ : ∃ E : Array Value, E = (x.row a' c').toArray := ⟨_, rfl⟩
        have Es := Lib.hid (show E.size = 41 by rw [hE, List.size_toArray]; exact hx41.out)
        have Eo := Lib.hid (show E.all (·.oneCell') = true by rw [hE]; exact all_one (nrow_one _ _ _ _ _ _))
        have HE := Lib.hid hE
        have Hy0e := Lib.hid hko.symm
        clear hE hr hni hkn hae hko hat hxe hkx hpk
        subst hfd
        go_wp2_with (first | (refine wpList_load_midg (by rfl) 30 (.tmp 51) rfl g' (off' + p * 41) rfl (x.row a' c') _ Hr.out Try.underlying30 rfl (by rw [hx41.out]; kernel_rfl) ?_; rw [← HE.out]) | (refine wpList_store_rowg rfl 30 (.tmp 12) (.tmp 52) rfl O E rfl rfl 30 D0 HO5.out (by rw [Es.out]; kernel_rfl) (by rw [Es.out, Ds.out]) Eo.out ?_))
        intro w6 hr6 hu6
        obtain ⟨y0, hy0⟩ : ∃ y0, y0 = x := ⟨_, rfl⟩
        obtain ⟨ax, hax⟩ : ∃ ax : Option Addr, ax = a' := ⟨_, rfl⟩
        obtain ⟨cx, hcx⟩ : ∃ cx : Nat, cx = c' := ⟨_, rfl⟩
        rw [HE.out, ← hy0, ← hax, ← hcx] at hr6
        rw [← hy0] at Hy0e
        have HO6 := Lib.hid hr6
        have Hy0 := Lib.hid (show NodeIn w6 F d y0 ax by rw [hy0, hax]; exact Hni.out.kept hu6 (fun b hb e => by have e' : b = O := e; have := hF b hb; omega))
        have Hbr6 := Lib.hid (Hbr5.out.upd (Nat.le_refl _) hu6 (fun b hb => by have hb' : b = O := hb; omega))
        have Hb36 := Lib.hid (Hbe.out.trans (Hbr6.out.mono Hbe.out.size))
        clear hr6 hu6 hy0 hax hcx HO5 Hbr5 f40 Hr Hni hx41 Es Eo HE hd hF'
        go_upto_region 16 with fail
        have f1r := f1c w6 Hb36.out
        obtain ⟨o1, fO⟩ := nd_cellR w6 O y0 ax cx 0 Hy0.out.vwf HO6.out (by omega)
        have zO := frozen_of_row w6 O 0 _ _ HO6.out
        have hsO := heap_setCell_same w6 O 0 _ _ (.string t) HO6.out
        rw [row_set0] at hsO
        have huO : Upd (fun b => b = O) w6 (w6.setCell ⟨O, 0, none⟩ (.string t)) := (Upd.refl _ _).setCell _ _ (fun _ => rfl)
        go_upto_region 17 with fail
        generalize w6.setCell ⟨O, 0, none⟩ (.string t) = w7 at hsO huO ⊢
        obtain ⟨y, hy⟩ : ∃ y, y = y0.named t := ⟨_, rfl⟩
        rw [← hy] at hsO
        have hyv : y.v.wf := by rw [hy]; exact Hy0.out.vwf
        have HO7 := Lib.hid hsO
        have hbr7 : Below wr.heap.size wr w7 := Hbr6.out.upd (Nat.le_refl _) huO (fun b hb => by have hb' : b = O := hb; omega)
        have Hbr7 := Lib.hid hbr7
        have Hb37 := Lib.hid (Hbe.out.trans (hbr7.mono Hbe.out.size))
        have Hy7 := Lib.hid (show NodeIn w7 F d y ax by rw [hy]; exact (Hy0.out.kept huO (fun b hb e => by have e' : b = O := e; have := hF b hb; omega)).namedR t (by omega))
        have HS7 := Lib.hid (show w7.drew.rangeAt B5 0 (s.row sa sc) from rangeAt_row ((Hb37.out.block B5 h53).trans H53.out))
        have Hyn := Lib.hid (show y = (kidOr n.kids t).named t by rw [hy, Hy0e.out])
        have hyp : y.parts ≤ 1000000 := by rw [Hyn.out]; exact kidOr_named_parts Hpt0.out ht255
        have hy41 := Lib.hid (row_len (a := ax) (c := cx) hyv)
        have hOw7 : O < w7.heap.size := lt_heap hsO
        have h37 : w3.heap.size ≤ w7.heap.size := Hb37.out.size
        have Hcall := Lib.hid (Ih.out F d e w7.drew y s ax sa ab cx sc nm (cl - 1) (Hy7.out.kept ((Upd.refl (fun _ => False) w7).drew) (fun _ _ => id)) ((Hs3.out.below Hb37.out).kept ((Upd.refl (fun _ => False) w7).drew) (fun _ _ => id)) (fun b hb => Nat.lt_of_lt_of_le (hF b hb) (show w.heap.size ≤ w7.heap.size by omega)) hyp hsp ((Hsb.out.kept (Upd.below Hb37.out (fun _ => False)) (fun _ _ _ => id)).kept ((Upd.refl (fun _ => False) w7).drew) (fun _ _ _ => id)) Hnm.out (by omega) (by omega) (fun x hx => Hxs.out x (by simp [hx])))
        clear hsO huO hy fO zO hyv hbr7 HO6 Hbr6 Hb36 f1r
        refine wp_region_noPanic ?_
        refine wp_region_held_drew (S := (fun w' => w'.rangeAt B5 0 (s.row sa sc))) (by kernel_rfl) HS7.out (fun hHeld => ?_)
        refine wpAnyH_take (i := 1) (v := ?_) rfl (by kernel_rfl) (by kernel_rfl) (by kernel_rfl) (fun _ _ _ h => h) (Or.inl ⟨by rfl, ?_⟩) (by assumption) ?_
        rotate_left
        · intro w hSw; (try dsimp only at hSw); go_simp; (try with_reducible rfl)
        (try simp only [List.getElem_toArray, List.getElem_cons_succ, List.getElem_cons_zero, Act.put, List.setIfInBounds_toArray, List.set_cons_zero, List.set_cons_succ])
        refine wpAnyH_take (i := 2) (v := ?_) rfl (by kernel_rfl) (by kernel_rfl) (by kernel_rfl) (fun _ _ _ h => h) (Or.inl ⟨by rfl, ?_⟩) (by assumption) ?_
        rotate_left
        · intro w hSw; (try dsimp only at hSw); go_simp; (try with_reducible rfl)
        (try simp only [List.getElem_toArray, List.getElem_cons_succ, List.getElem_cons_zero, Act.put, List.setIfInBounds_toArray, List.set_cons_zero, List.set_cons_succ])
        refine' wpAnyH_take (i := 3) (v := _) rfl (by kernel_rfl) (by kernel_rfl) (by kernel_rfl) (fun _ _ _ h => h) (yieldsIf_load_mid (by rfl) _ _ rfl _ _ rfl _ _ ?hS3y ?hu3y ?hd3y ?hi3y) (by assumption) ?rest1y
        case hS3y => (intro w hSw; (try dsimp only at hSw); assumption)
        case hu3y => exact und41
        case hd3y => rfl
        case hi3y => exact sinf
        (try simp only [List.getElem_toArray, List.getElem_cons_succ, List.getElem_cons_zero, Act.put, List.setIfInBounds_toArray, List.set_cons_zero, List.set_cons_succ])
        refine wpAnyH_ready (rs := [0]) (by kernel_rfl) (by simp) ?_
        refine AllReadyH.cons rfl (fun K hK => ?_) AllReadyH.nil
        rw [if_pos (by rfl)]
        refine wp_load_mid 30 (.tmp 12) rfl O 0 rfl (y.row ax cx) _ (show w7.drew.rangeAt O 0 (y.row ax cx) from rangeAt_row HO7.out) Try.underlying30 rfl (by rw [hy41.out]; kernel_rfl) ?_
        refine hK.out _ _ HS7.out (fun hHeld => ?_)
        clear hK K
        (try simp only [List.getElem_toArray, List.getElem_cons_succ, List.getElem_cons_zero, Act.put, List.setIfInBounds_toArray, List.set_cons_zero, List.set_cons_succ])
        refine wpAnyH_ready (rs := [4]) (by kernel_rfl) (by simp) ?_
        refine AllReadyH.cons rfl (fun K hK => ?_) AllReadyH.nil
        go_simp
        refine Hcall.out.mono ?_
        rintro e8 w8 ⟨a8, c8, rfl, hn8, hb8⟩
        have hb8' : Below w7.heap.size w7 w8 := below_on (on_drew (Below.refl w7.heap.size w7)) hb8
        have HO8 := Lib.hid ((hb8'.block O hOw7).trans HO7.out)
        have HS8 := Lib.hid (show w8.rangeAt B5 0 (s.row sa sc) from rangeAt_kept HS7.out (Upd.below hb8 (fun _ => False)) id)
        obtain ⟨r, hr⟩ : ∃ r, r = putR y l s := ⟨_, rfl⟩
        rw [← hr] at hn8
        rw [← hr]
        have Hn8 := Lib.hid (hn8.mono (G := fun b => w7.heap.size ≤ b ∧ b < w8.heap.size) (fun b hb hl => ⟨hb, hl⟩))
        have Hre := Lib.hid (show r = putR ((kidOr n.kids t).named t) l s by rw [hr, Hyn.out])
        have hr41 := Lib.hid (row_len (a := a8) (c := c8) hn8.vwf)
        have hr41s := Lib.hid (show (r.row a8 c8).toArray.size = 41 by rw [List.size_toArray]; exact row_len hn8.vwf)
        have Hth := Lib.hid (show w8.there O 0 41 from there_rowR HO8.out 0 41 (by rw [List.size_toArray, hy41.out]; omega))
        have hse := heap_setCells8 w8 O (y.row ax cx) (r.row a8 c8) HO8.out (by rw [hy41.out, hr41.out])
        have hsu := upd_setCells w8 O 0 (r.row a8 c8)
        obtain ⟨w9, hw9⟩ : ∃ w9, w9 = w8.setCells O 0 (r.row a8 c8).toArray.toList := ⟨_, rfl⟩
        rw [show w8.setCells O 0 (r.row a8 c8) = w9 from hw9.symm] at hse hsu
        have Hw9 := Lib.hid hw9
        have HO9 := Lib.hid hse
        have Hsu := Lib.hid hsu
        have HS9 := Lib.hid (show w9.rangeAt B5 0 (s.row sa sc) from rangeAt_kept HS8.out hsu (fun e => hO5 e.symm))
        have Hbr9 := Lib.hid ((Hbr7.out.trans (hb8'.mono Hbr7.out.size)).upd (Nat.le_refl _) hsu (fun b hb => by have hb' : b = O := hb; omega))
        have hw78 : w7.heap.size ≤ w8.heap.size := hb8'.size
        clear hb8 hb8' hn8 hr hw9 hse hsu Hcall
        (try go_wp2_with fail)
        refine hK.out _ _ HS8.out (fun hHeld => ?_)
        clear hK K
        (try simp only [List.getElem_toArray, List.getElem_cons_succ, List.getElem_cons_zero, Act.put, List.setIfInBounds_toArray, List.set_cons_zero, List.set_cons_succ])
        refine wpAnyH_ready (rs := [5]) (by kernel_rfl) (by simp) ?_
        refine AllReadyH.cons rfl (fun K hK => ?_) AllReadyH.nil
        rw [if_pos (by rfl)]
        refine wp_store_mid 30 (.tmp 12) (.tmp 63) rfl O 0 (r.row a8 c8).toArray rfl rfl (by rw [hr41s.out]; exact Hth.out) (by rw [hr41s.out]; kernel_rfl) (all_one (nrow_one _ _ _ _ _ _)) ?_
        rw [← Hw9.out]
        refine hK.out _ _ HS9.out (fun hHeld => ?_)
        clear hK K
        (try simp only [List.getElem_toArray, List.getElem_cons_succ, List.getElem_cons_zero, Act.put, List.setIfInBounds_toArray, List.set_cons_zero, List.set_cons_succ])
        refine wpAnyH_done (by kernel_rfl) ?_ _
        refine NoPanic.normal ?_
        clear hHeld
        have Hr9 := Lib.hid ((Hn8.out.kept Hsu.out (fun b hb e => by have e' : b = O := e; have := hb.1; omega)).mono (G := fun b => wr.heap.size ≤ b) (fun b hb _ => Nat.le_trans Hbr7.out.size hb.1))
        have fk : w9.cell? ⟨O, 1, none⟩ = some (.int .i64 r.v.kind) := by
          have h := (vl_at (nrow_at (o := 0) Hr9.out.vwf (rangeAt_row HO9.out)).2.1).1
          simpa using h
        have Hb39 := Lib.hid (Hbe.out.trans (Hbr9.out.mono Hbe.out.size))
        have hr32 := Lib.hid Hr9.out.vwf.1
        clear Hn8 HO8 HS8 HS9 Hsu Hw9 Hth HS7 HO7 Hy7
        by_cases hrk : r.v.kind = 0
        · have q1 : (r.v.kind != 0) = false := by rw [hrk]; rfl
          have Hpre := Lib.hid (show n.kids.take p = n.kids.take p ++ oneR r by unfold oneR; rw [if_pos hrk, List.append_nil])
          have hst0 := (Hst.out.doneR (Upd.below Hbr9.out (fun b => b < w3.heap.size)))
          rw [Hpre.out] at hst0
          have Hst0 := Lib.hid hst0
          have Hpl := Lib.hid (show (n.kids.take p ++ oneR r).length = p by rw [← Hpre.out, List.length_take, ← Hm.out]; omega)
          have hb39 := Hb39.out
          clear hst0 Hpre
          obtain ⟨pre, hpre⟩ : ∃ pre, pre = n.kids.take p ++ oneR r := ⟨_, rfl⟩
          rw [← hpre] at Hst0 Hpl
          have Hpred := Lib.hid hpre
          clear hpre
          obtain ⟨P2, hP2⟩ : ∃ P2, P2 = p := ⟨_, rfl⟩
          have hP2m : P2 ≤ m + 1 := by omega
          rw [← hP2] at Hst0 Hpl
          have HP2 := Lib.hid hP2
          clear hP2
          go_wp2_with fail
          clear fk q1 hrk
          have Hb39c := Lib.hid hb39
          clear hb39 Hst Hbe
          go_loopw [10, 13] (fun v i wr => ∃ (k K : Nat) (a3 : Option Addr) (c3 : Nat) (al2 : List (Option Addr × Nat)), q ≤ k ∧ k ≤ m ∧ i = .int .i64 k ∧ K = P2 + (k - q) ∧ v = .slice a3 K c3 ∧ CopySt w3 wr (d + l.length + e) K a3 c3 (pre ++ (n.kids.take k).drop q) al2 ∧ Below w3.heap.size w3 wr) (fun _ i _ => m - (intOf i).toNat)
          case atStart => exact ⟨q, P2, _, _, _, Nat.le_refl _, hqm, (by first | rfl | exact congrArg (Value.int .i64) (by omega)), by omega, by rw [HP2.out], by rw [show (n.kids.take q).drop q = [] by rw [List.drop_eq_nil_iff]; rw [List.length_take]; omega, List.append_nil]; exact Hst0.out, Hb39c.out⟩
          case round =>
            obtain ⟨k, K, a3, c3, al2, hqk, hk, rfl, hK, rfl, hst, hbe⟩ := hrel
            have Hst := Lib.hid hst
            have Hbe := Lib.hid hbe
            have HK := Lib.hid hK
            have hKm : K ≤ 3000000 := by omega
            clear hst hbe hK Hst0
            have f40 : wr.cell? ⟨B3, 40, none⟩ = some (.slice a m c) := by
              have h := (nrow_at (o := 0) Hn.out.vwf (rangeAt_row ((Hbe.out.block B3 h33).trans H33.out))).2.2.2
              simp only [Nat.zero_add] at h
              rw [h, ← Hm.out]
            by_cases hlt : k < m
            · have hlt' : k < m := hlt
              clear f40
              obtain ⟨d', hd⟩ : ∃ e, d = e + 1 := by
                cases d with
                | zero => exfalso; have h0 : n.kids = [] := Hn.out.kids; have := Hm.out; rw [h0] at this; simp at this; omega
                | succ e => exact ⟨e, rfl⟩
              have hkn := Hn.out.kids
              rw [hd] at hkn
              have hkm : k < n.kids.length := by rw [← Hm.out]; exact hlt'
              obtain ⟨g', off', a', c', hae, hF', hr, hni⟩ := ((hkn.below Hb23.out).below Hbe.out).at (i := k) hkm
              obtain ⟨x, hx⟩ : ∃ x, x = n.kids[k]'hkm := ⟨_, rfl⟩
              rw [← hx] at hr hni
              have f40 : wr.cell? ⟨B3, 40, none⟩ = some (.slice (some ⟨g', off', none⟩) m c) := by
                have h := (nrow_at (o := 0) Hn.out.vwf (rangeAt_row ((Hbe.out.block B3 h33).trans H33.out))).2.2.2
                simp only [Nat.zero_add] at h
                rw [h, ← Hm.out, hae]
              have Hr := Lib.hid (And.intro hr hni)
              have Hx := Lib.hid hx
              have hvwf := Lib.hid (row_len (a := a') (c := c') hni.vwf)
              have hx32 := Lib.hid hni.vwf.1
              have i1 : (0 : Int) ≤ (k : Int) := by omega
              have i2 : (k : Int) < (m : Int) := by omega
              have hx6 : x.parts ≤ 1000000 := by rw [hx]; exact Nat.le_trans (partsAll_get _) Hpt.out
              have hws := Hbe.out.size
              have Hcp := Lib.hid (copy_ok d' F wr x a' c' hni (fun b hb => Nat.lt_of_lt_of_le (hF b hb) (by omega)) hx6)
              have Hdd := Lib.hid (show d' ≤ (d + l.length + e) by omega)
              obtain ⟨ksf, hksf⟩ : ∃ z, z = pre ++ (n.kids.take k).drop q := ⟨_, rfl⟩
              have hst2 := Hst.out
              rw [← hksf] at hst2
              have Hst2 := Lib.hid hst2
              have Hksf := Lib.hid hksf
              clear hr hni hx hkn hd hae hksf hst2
              go_wp2_with (refine wpList_load_midg (by rfl) 30 (.tmp 84) rfl g' (off' + k * 41) rfl (x.row a' c') _ Hr.out.1 Try.underlying30 rfl (by rw [hvwf.out]; kernel_rfl) ?_)
              refine Hcp.out.mono ?_
              rintro e w5 ⟨ax, cx, rfl, hxn, hb5⟩
              have Hxn := Lib.hid (hxn.deeper Hdd.out)
              have Hb5 := Lib.hid hb5
              have hout5 := Lib.hid (Hst2.out.out.kept (Upd.below hb5 (fun _ => False)) (fun _ _ => id))
              clear hxn hb5 Hcp
              go_wp2_with (first | (refine wpList_buildSlice_eq (by rfl) 28 1 #[(0, .tmp 86)] rfl #[(0, .agg (x.row ax cx).toArray)] (by kernel_rfl) _ (build_node x ax cx hx32.out _) ?_) | (at_builtin; refine wpList_append_any rfl _ _ 28 rfl 30 i0 _ 41 128 Try.underlying28 hi hz0 hz1 hz2 rfl (by decide) (.slice a3 K c3) K (rowsOf ksf al2) (.slice (some ⟨w5.heap.size, 0, none⟩) 1 1) 1 (x.row ax cx) rfl rfl (hout5.out.kept ((Upd.refl (fun _ => False) w5).alloc _) (fun _ _ => id)) (Sl.made _ _ _ _ _ _ _ _ (List.toList_toArray ..) (by rw [row_len (show x.v.wf from Hr.out.2.vwf)]) (by omega)) (nrow_one _ _ _ _ _ _) (by omega) (by omega) ?_))
              intro a7 c7 w7 hown7 hgr7 hb7
              have hu57 : Upd (fun b => (Value.slice a3 K c3).ownBlock = some b) w5 w7 := Upd.grown ((Upd.refl _ w5).alloc _) hgr7 (fun b hb _ => hb)
              have hst7 := Hst2.out.next hws Hb5.out cx Hxn.out hown7 hgr7 (by simpa using hb7)
              have Hst7 := Lib.hid hst7
              have Hbe7 := Lib.hid ((Hbe.out.upd (Nat.le_refl _) (Upd.below Hb5.out (fun _ => False)) (fun b hb => hb.elim)).upd (Nat.le_refl _) hu57 (fun b hb => Hst2.out.n3 b hb))
              clear hown7 hgr7 hb7 hu57 hst7 f40
              go_wp2
              go_roundw
              case rel =>
                refine ⟨k + 1, K + 1, a7, c7, al2 ++ [(ax, cx)], by omega, hlt, by go_num, by have := HK.out; omega, rfl, ?_, Hbe7.out⟩
                rw [List.take_succ_eq_append_getElem (by rw [← Hm.out]; exact hlt), List.drop_append_of_le_length (by rw [List.length_take, ← Hm.out]; omega), ← List.append_assoc, ← Hksf.out, ← Hx.out]
                exact Hst7.out
              case measure => simp [intOf]; omega
            · obtain rfl : k = m := by omega
              clear hlt
              have hke : (n.kids.take k).drop q = n.kids.drop q := by rw [List.take_of_length_le (by rw [← Hm.out]; exact Nat.le_refl _)]
              have hs := Hst.out
              rw [hke] at hs
              obtain ⟨N9, hN9⟩ : ∃ N9, N9 = Nd.mk n.name n.v n.m (pre ++ n.kids.drop q) := ⟨_, rfl⟩
              have hKL : (pre ++ n.kids.drop q).length = K := by rw [List.length_append, Hpl.out, List.length_drop, ← Hm.out]; have := HK.out; omega
              have h3r := (Hbe.out.block B3 h33).trans H33.out
              have hRr := (Hbe.out.block R hR3').trans HR3.out
              have z40 := frozen_of_row wr B3 40 _ _ h3r
              have hs40 := heap_setCell_same wr B3 40 _ _ (.slice a3 K c3) h3r
              rw [row_set40K n (pre ++ n.kids.drop q) a a3 c c3 K hKL Hn.out.vwf, ← hN9] at hs40
              have hu1 : Upd (fun b => b = B3) wr (wr.setCell ⟨B3, 40, none⟩ (.slice a3 K c3)) := (Upd.refl _ _).setCell _ _ (fun _ => rfl)
              have hN9v : N9.v.wf := by rw [hN9]; exact Hn.out.vwf
              have HR9 := Lib.hid (hu1.at_ hRr hR3)
              have Hrow9 := Lib.hid (rangeAt_row hs40)
              have N41 := Lib.hid (row_len (n := N9) (a := a3) (c := c3) hN9v)
              obtain ⟨G, hG⟩ : ∃ G : Array Value, G = (N9.row a3 c3).toArray := ⟨_, rfl⟩
              have Gs := Lib.hid (show G.size = 41 by rw [hG, List.size_toArray]; exact N41.out)
              have Go_ := Lib.hid (show G.all (·.oneCell') = true by rw [hG]; exact all_one (nrow_one _ _ _ _ _ _))
              have HG := Lib.hid hG
              have Hs9 := Lib.hid hs
              have Hu1 := Lib.hid hu1
              have HN9 := Lib.hid hN9
              have HKL := Lib.hid hKL
              clear hke hs hs40 hu1 h3r hRr hG hN9 hKL hN9v
              go_wp2_with (first | (refine wpList_load_midg (by rfl) 30 (.tmp 3) rfl B3 0 rfl (N9.row a3 c3) _ Hrow9.out Try.underlying30 rfl (by rw [N41.out]; kernel_rfl) ?_; rw [← HG.out]) | (refine wpList_store_rowg rfl 30 (.tmp 6) (.tmp 91) rfl R G rfl rfl 30 Z HR9.out (by rw [Gs.out]; kernel_rfl) (by rw [Gs.out, hZs.out]) Go_.out ?_))
              intro wz hrz huz
              go_wp2
              have hput : putR n (t :: l) s = N9 := by rw [putR_cons, HN9.out, Hpred.out, Hre.out, ← Hp.out, ← Hq.out, List.append_assoc]
              have hK9 : N9.kids.length = K := by rw [HN9.out]; exact HKL.out
              refine bodyPost_ret (results_cell_row (P := Try.prog) Try.results89 _ _ R 30 G (0, 0) _ rfl hrz Try.underlying30 rfl (by rw [Gs.out]; kernel_rfl)) rfl ⟨a3, c3, by rw [HG.out, hput], ?_, ?_⟩
              · rw [hput]
                have hkids := CopySt.kids (w := w) (d := (d + l.length + e) + 1) Hs9.out hw03 ((Hu1.out.mono (fun b _ hb => by have hb' : b = B3 := hb; omega)).trans (huz.mono (fun b _ hb => by have hb' : b = R := hb; omega))) (fun h => absurd h (by omega))
                exact ⟨by rw [HN9.out]; exact Hn.out.vwf, by rw [HN9.out]; exact Hn.out.mwf, by rw [HN9.out]; exact Hn.out.nsz, by rw [hK9]; omega, by rw [HN9.out]; exact hkids.deeper (by show d + l.length + e + 1 ≤ d + (l.length + 1) + e; omega)⟩
              · exact ((Hb03.out.trans (Hbe.out.mono hw03)).upd (Nat.le_refl _) Hu1.out (fun b hb => by omega)).upd (Nat.le_refl _) huz (fun b hb => by omega)
        · have q1 : (r.v.kind != 0) = true := by rw [bne_iff_ne]; exact hrk
          have Hone := Lib.hid (show oneR r = [r] by unfold oneR; rw [if_neg hrk])
          have hout9 := Lib.hid (Hst.out.out.kept (Upd.below Hbr9.out (fun _ => False)) (fun _ _ => id))
          have HrD := Lib.hid Hr9.out
          go_wp2_with (first | (refine wpList_load_midg (by rfl) 30 (.tmp 12) rfl O 0 rfl (r.row a8 c8) _ (rangeAt_row HO9.out) Try.underlying30 rfl (by rw [hr41.out]; kernel_rfl) ?_) | (refine wpList_buildSlice_eq (by rfl) 28 1 #[(0, .tmp 69)] rfl #[(0, .agg (r.row a8 c8).toArray)] (by kernel_rfl) _ (build_node r a8 c8 hr32.out _) ?_) | (at_builtin; refine wpList_append_any rfl _ _ 28 rfl 30 i0 _ 41 128 Try.underlying28 hi hz0 hz1 hz2 rfl (by decide) (.slice a3 p c3) p (rowsOf (n.kids.take p) al2) (.slice (some ⟨w9.heap.size, 0, none⟩) 1 1) 1 (r.row a8 c8) rfl rfl (hout9.out.kept ((Upd.refl (fun _ => False) w9).alloc _) (fun _ _ => id)) (Sl.made _ _ _ _ _ _ _ _ (List.toList_toArray ..) (by rw [hr41.out]) (by omega)) (nrow_one _ _ _ _ _ _) (by omega) (by omega) ?_))
          intro a7 c7 w10 hown7 hgr7 hb7
          have hu57 : Upd (fun b => (Value.slice a3 p c3).ownBlock = some b) w9 w10 := Upd.grown ((Upd.refl _ w9).alloc _) hgr7 (fun b hb _ => hb)
          have hst7 := Hst.out.next (show w3.heap.size ≤ wr.heap.size from Hbe.out.size) Hbr9.out c8 HrD.out hown7 hgr7 (by simpa using hb7)
          rw [← Hone.out] at hst7
          have Hst0 := Lib.hid hst7
          have hb39 := Hb39.out.upd (Nat.le_refl _) hu57 (fun b hb => Hst.out.n3 b hb)
          have Hpl := Lib.hid (show (n.kids.take p ++ oneR r).length = p + 1 by rw [Hone.out, List.length_append, List.length_take, ← Hm.out]; show min p m + 1 = _; omega)
          clear hown7 hgr7 hb7 hu57 hst7 fk hout9
          obtain ⟨pre, hpre⟩ : ∃ pre, pre = n.kids.take p ++ oneR r := ⟨_, rfl⟩
          rw [← hpre] at Hst0 Hpl
          have Hpred := Lib.hid hpre
          clear hpre
          obtain ⟨P2, hP2⟩ : ∃ P2, P2 = p + 1 := ⟨_, rfl⟩
          have hP2m : P2 ≤ m + 1 := by omega
          rw [← hP2] at Hst0 Hpl
          have HP2 := Lib.hid hP2
          clear hP2
          go_wp2_with fail
          clear q1 hrk
          have Hb39c := Lib.hid hb39
          clear hb39 Hst Hbe
          go_loopw [10, 13] (fun v i wr => ∃ (k K : Nat) (a3 : Option Addr) (c3 : Nat) (al2 : List (Option Addr × Nat)), q ≤ k ∧ k ≤ m ∧ i = .int .i64 k ∧ K = P2 + (k - q) ∧ v = .slice a3 K c3 ∧ CopySt w3 wr (d + l.length + e) K a3 c3 (pre ++ (n.kids.take k).drop q) al2 ∧ Below w3.heap.size w3 wr) (fun _ i _ => m - (intOf i).toNat)
          case atStart => exact ⟨q, P2, _, _, _, Nat.le_refl _, hqm, (by first | rfl | exact congrArg (Value.int .i64) (by omega)), by omega, by rw [HP2.out], by rw [show (n.kids.take q).drop q = [] by rw [List.drop_eq_nil_iff]; rw [List.length_take]; omega, List.append_nil]; exact Hst0.out, Hb39c.out⟩
          case round =>
            obtain ⟨k, K, a3, c3, al2, hqk, hk, rfl, hK, rfl, hst, hbe⟩ := hrel
            have Hst := Lib.hid hst
            have Hbe := Lib.hid hbe
            have HK := Lib.hid hK
            have hKm : K ≤ 3000000 := by omega
            clear hst hbe hK Hst0
            have f40 : wr.cell? ⟨B3, 40, none⟩ = some (.slice a m c) := by
              have h := (nrow_at (o := 0) Hn.out.vwf (rangeAt_row ((Hbe.out.block B3 h33).trans H33.out))).2.2.2
              simp only [Nat.zero_add] at h
              rw [h, ← Hm.out]
            by_cases hlt : k < m
            · have hlt' : k < m := hlt
              clear f40
              obtain ⟨d', hd⟩ : ∃ e, d = e + 1 := by
                cases d with
                | zero => exfalso; have h0 : n.kids = [] := Hn.out.kids; have := Hm.out; rw [h0] at this; simp at this; omega
                | succ e => exact ⟨e, rfl⟩
              have hkn := Hn.out.kids
              rw [hd] at hkn
              have hkm : k < n.kids.length := by rw [← Hm.out]; exact hlt'
              obtain ⟨g', off', a', c', hae, hF', hr, hni⟩ := ((hkn.below Hb23.out).below Hbe.out).at (i := k) hkm
              obtain ⟨x, hx⟩ : ∃ x, x = n.kids[k]'hkm := ⟨_, rfl⟩
              rw [← hx] at hr hni
              have f40 : wr.cell? ⟨B3, 40, none⟩ = some (.slice (some ⟨g', off', none⟩) m c) := by
                have h := (nrow_at (o := 0) Hn.out.vwf (rangeAt_row ((Hbe.out.block B3 h33).trans H33.out))).2.2.2
                simp only [Nat.zero_add] at h
                rw [h, ← Hm.out, hae]
              have Hr := Lib.hid (And.intro hr hni)
              have Hx := Lib.hid hx
              have hvwf := Lib.hid (row_len (a := a') (c := c') hni.vwf)
              have hx32 := Lib.hid hni.vwf.1
              have i1 : (0 : Int) ≤ (k : Int) := by omega
              have i2 : (k : Int) < (m : Int) := by omega
              have hx6 : x.parts ≤ 1000000 := by rw [hx]; exact Nat.le_trans (partsAll_get _) Hpt.out
              have hws := Hbe.out.size
              have Hcp := Lib.hid (copy_ok d' F wr x a' c' hni (fun b hb => Nat.lt_of_lt_of_le (hF b hb) (by omega)) hx6)
              have Hdd := Lib.hid (show d' ≤ (d + l.length + e) by omega)
              obtain ⟨ksf, hksf⟩ : ∃ z, z = pre ++ (n.kids.take k).drop q := ⟨_, rfl⟩
              have hst2 := Hst.out
              rw [← hksf] at hst2
              have Hst2 := Lib.hid hst2
              have Hksf := Lib.hid hksf
              clear hr hni hx hkn hd hae hksf hst2
              go_wp2_with (refine wpList_load_midg (by rfl) 30 (.tmp 84) rfl g' (off' + k * 41) rfl (x.row a' c') _ Hr.out.1 Try.underlying30 rfl (by rw [hvwf.out]; kernel_rfl) ?_)
              refine Hcp.out.mono ?_
              rintro e w5 ⟨ax, cx, rfl, hxn, hb5⟩
              have Hxn := Lib.hid (hxn.deeper Hdd.out)
              have Hb5 := Lib.hid hb5
              have hout5 := Lib.hid (Hst2.out.out.kept (Upd.below hb5 (fun _ => False)) (fun _ _ => id))
              clear hxn hb5 Hcp
              go_wp2_with (first | (refine wpList_buildSlice_eq (by rfl) 28 1 #[(0, .tmp 86)] rfl #[(0, .agg (x.row ax cx).toArray)] (by kernel_rfl) _ (build_node x ax cx hx32.out _) ?_) | (at_builtin; refine wpList_append_any rfl _ _ 28 rfl 30 i0 _ 41 128 Try.underlying28 hi hz0 hz1 hz2 rfl (by decide) (.slice a3 K c3) K (rowsOf ksf al2) (.slice (some ⟨w5.heap.size, 0, none⟩) 1 1) 1 (x.row ax cx) rfl rfl (hout5.out.kept ((Upd.refl (fun _ => False) w5).alloc _) (fun _ _ => id)) (Sl.made _ _ _ _ _ _ _ _ (List.toList_toArray ..) (by rw [row_len (show x.v.wf from Hr.out.2.vwf)]) (by omega)) (nrow_one _ _ _ _ _ _) (by omega) (by omega) ?_))
              intro a7 c7 w7 hown7 hgr7 hb7
              have hu57 : Upd (fun b => (Value.slice a3 K c3).ownBlock = some b) w5 w7 := Upd.grown ((Upd.refl _ w5).alloc _) hgr7 (fun b hb _ => hb)
              have hst7 := Hst2.out.next hws Hb5.out cx Hxn.out hown7 hgr7 (by simpa using hb7)
              have Hst7 := Lib.hid hst7
              have Hbe7 := Lib.hid ((Hbe.out.upd (Nat.le_refl _) (Upd.below Hb5.out (fun _ => False)) (fun b hb => hb.elim)).upd (Nat.le_refl _) hu57 (fun b hb => Hst2.out.n3 b hb))
              clear hown7 hgr7 hb7 hu57 hst7 f40
              go_wp2
              go_roundw
              case rel =>
                refine ⟨k + 1, K + 1, a7, c7, al2 ++ [(ax, cx)], by omega, hlt, by go_num, by have := HK.out; omega, rfl, ?_, Hbe7.out⟩
                rw [List.take_succ_eq_append_getElem (by rw [← Hm.out]; exact hlt), List.drop_append_of_le_length (by rw [List.length_take, ← Hm.out]; omega), ← List.append_assoc, ← Hksf.out, ← Hx.out]
                exact Hst7.out
              case measure => simp [intOf]; omega
            · obtain rfl : k = m := by omega
              clear hlt
              have hke : (n.kids.take k).drop q = n.kids.drop q := by rw [List.take_of_length_le (by rw [← Hm.out]; exact Nat.le_refl _)]
              have hs := Hst.out
              rw [hke] at hs
              obtain ⟨N9, hN9⟩ : ∃ N9, N9 = Nd.mk n.name n.v n.m (pre ++ n.kids.drop q) := ⟨_, rfl⟩
              have hKL : (pre ++ n.kids.drop q).length = K := by rw [List.length_append, Hpl.out, List.length_drop, ← Hm.out]; have := HK.out; omega
              have h3r := (Hbe.out.block B3 h33).trans H33.out
              have hRr := (Hbe.out.block R hR3').trans HR3.out
              have z40 := frozen_of_row wr B3 40 _ _ h3r
              have hs40 := heap_setCell_same wr B3 40 _ _ (.slice a3 K c3) h3r
              rw [row_set40K n (pre ++ n.kids.drop q) a a3 c c3 K hKL Hn.out.vwf, ← hN9] at hs40
              have hu1 : Upd (fun b => b = B3) wr (wr.setCell ⟨B3, 40, none⟩ (.slice a3 K c3)) := (Upd.refl _ _).setCell _ _ (fun _ => rfl)
              have hN9v : N9.v.wf := by rw [hN9]; exact Hn.out.vwf
              have HR9 := Lib.hid (hu1.at_ hRr hR3)
              have Hrow9 := Lib.hid (rangeAt_row hs40)
              have N41 := Lib.hid (row_len (n := N9) (a := a3) (c := c3) hN9v)
              obtain ⟨G, hG⟩ : ∃ G : Array Value, G = (N9.row a3 c3).toArray := ⟨_, rfl⟩
              have Gs := Lib.hid (show G.size = 41 by rw [hG, List.size_toArray]; exact N41.out)
              have Go_ := Lib.hid (show G.all (·.oneCell') = true by rw [hG]; exact all_one (nrow_one _ _ _ _ _ _))
              have HG := Lib.hid hG
              have Hs9 := Lib.hid hs
              have Hu1 := Lib.hid hu1
              have HN9 := Lib.hid hN9
              have HKL := Lib.hid hKL
              clear hke hs hs40 hu1 h3r hRr hG hN9 hKL hN9v
              go_wp2_with (first | (refine wpList_load_midg (by rfl) 30 (.tmp 3) rfl B3 0 rfl (N9.row a3 c3) _ Hrow9.out Try.underlying30 rfl (by rw [N41.out]; kernel_rfl) ?_; rw [← HG.out]) | (refine wpList_store_rowg rfl 30 (.tmp 6) (.tmp 91) rfl R G rfl rfl 30 Z HR9.out (by rw [Gs.out]; kernel_rfl) (by rw [Gs.out, hZs.out]) Go_.out ?_))
              intro wz hrz huz
              go_wp2
              have hput : putR n (t :: l) s = N9 := by rw [putR_cons, HN9.out, Hpred.out, Hre.out, ← Hp.out, ← Hq.out, List.append_assoc]
              have hK9 : N9.kids.length = K := by rw [HN9.out]; exact HKL.out
              refine bodyPost_ret (results_cell_row (P := Try.prog) Try.results89 _ _ R 30 G (0, 0) _ rfl hrz Try.underlying30 rfl (by rw [Gs.out]; kernel_rfl)) rfl ⟨a3, c3, by rw [HG.out, hput], ?_, ?_⟩
              · rw [hput]
                have hkids := CopySt.kids (w := w) (d := (d + l.length + e) + 1) Hs9.out hw03 ((Hu1.out.mono (fun b _ hb => by have hb' : b = B3 := hb; omega)).trans (huz.mono (fun b _ hb => by have hb' : b = R := hb; omega))) (fun h => absurd h (by omega))
                exact ⟨by rw [HN9.out]; exact Hn.out.vwf, by rw [HN9.out]; exact Hn.out.mwf, by rw [HN9.out]; exact Hn.out.nsz, by rw [hK9]; omega, by rw [HN9.out]; exact hkids.deeper (by show d + l.length + e + 1 ≤ d + (l.length + 1) + e; omega)⟩
              · exact ((Hb03.out.trans (Hbe.out.mono hw03)).upd (Nat.le_refl _) Hu1.out (fun b hb => by omega)).upd (Nat.le_refl _) huz (fun b hb => by omega)
theorem putR_ok : ∀ l : List ByteArray, PutRAt l
  | [] => putR_ok0
  | t :: l => putR_step t l (putR_ok l)
end Go.Proofs.Ythnbinlllmkabaa
