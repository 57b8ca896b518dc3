/- The reference's Sub. (Written by gen_refsub.py.) -/
import Derived.Test.YthnbinlllmkabaaRefWay
import Derived.Test.YthnbinlllmkabaaPlain
namespace Go.Proofs.Ythnbinlllmkabaa
open Go.RowKit
set_option linter.unusedVariables false
set_option linter.unusedSimpArgs false

/-- What stands behind names, as the reference goes. -/
def goR (n : Nd) (l : List ByteArray) : Nd := l.foldl (fun m t => kidOr m.kids t) n
theorem kidOr_no (t : ByteArray) : kidOr noNd.kids t = noNd := by unfold kidOr; rfl
theorem goR_no : ∀ l : List ByteArray, goR noNd l = noNd
  | [] => rfl
  | t :: l => by show goR (kidOr noNd.kids t) l = _; rw [kidOr_no]; exact goR_no l
theorem goR_eq : ∀ (l : List ByteArray) (n : Nd), goR n l = (subOf n l).getD noNd
  | [], n => by cases n; rfl
  | t :: l, n => by
    show goR (kidOr n.kids t) l = _
    have e : subOf n (t :: l) = (kidOf n.kids t).bind fun k => subOf k l := by cases n; rfl
    rw [e]
    unfold kidOr
    cases hk : kidOf n.kids t with
    | none => show goR noNd l = noNd; exact goR_no l
    | some k => show goR k l = _; rw [goR_eq l k]; rfl
theorem goR_step (n : Nd) (l : List ByteArray) (k : Nat) (h : k < l.length) : goR n (l.take (k + 1)) = kidOr (goR n (l.take k)).kids l[k] := by
  unfold goR
  rw [List.take_succ_eq_append_getElem h, List.foldl_append]
  rfl
theorem sub_kinded : ∀ (l : List ByteArray) (n k : Nd), n.kinded → subOf n l = some k → k.kinded
  | [], n, k, h, e => by cases n; injection e with e; subst e; exact h
  | t :: l, n, k, h, e => by
    have e2 : subOf n (t :: l) = (kidOf n.kids t).bind fun k => subOf k l := by cases n; rfl
    rw [e2, Option.bind_eq_some_iff] at e
    obtain ⟨x, h1, h2⟩ := e
    refine sub_kinded l x k ?_ h2
    obtain ⟨h3, h4⟩ := List.getElem?_eq_some_iff.1 (kidOf_some h1).1
    rw [kinded_eq] at h
    have := kindedAll_get _ h.2 _ h3
    rw [h4] at this
    exact this
/-- What Sub answers. -/
def subN (n : Nd) (s : ByteArray) : Nd := ((subAt n s).map fun k => k.named ⟨#[]⟩).getD noNd
theorem goR_parts : ∀ (l : List ByteArray) (n : Nd), n.parts ≤ 1000000 → (goR n l).parts ≤ 1000000
  | [], n, h => h
  | t :: l, n, h => goR_parts l _ (kidOr_parts h)
set_option maxHeartbeats 8000000 in
set_option maxRecDepth 100000 in
theorem refSub_ok (F : Nat → Prop) (d : Nat) (w : World) (n : Nd) (s : ByteArray) (a : Option Addr) (c : Nat) (hn : NodeIn w F d n a) (hF : ∀ b, F b → b < w.heap.size) (hpt : n.parts ≤ 1000000) (hkd : n.kinded) (hs : s.size ≤ 1000000000) :
    Calls Try.prog 92 #[.agg (n.row a c).toArray, .string s] w fun e w' => ∃ (a' : Option Addr) (c' : Nat), e = .returned (.tuple #[.agg ((subN n s).row a' c').toArray, .bool (subAt n s).isSome]) ∧ NodeIn w' (fun b => w.heap.size ≤ b) d (subN n s) a' ∧ Below w.heap.size w w' := by
  have Hn := Lib.hid hn
  have h41 := Lib.hid (row_len (a := a) (c := c) hn.vwf)
  have Hkd := Lib.hid hkd
  clear hn hkd
  go_enter Try.func92, Try.ntmps92
  go_upto_region 1 with fail
  have hbx := (Below.heap_alloc (w.alloc (.cells (n.row a c).toArray 30)) (.cells #[.string ⟨#[]⟩, .int .i64 0, .int .i64 0, .int .i64 0, .int .u8 0, .int .u8 0, .int .u8 0, .int .u8 0, .int .u8 0, .int .u8 0, .int .u8 0, .int .u8 0, .int .u8 0, .int .u8 0, .int .u8 0, .int .u8 0, .int .u8 0, .int .u8 0, .int .u8 0, .int .u8 0, .int .u8 0, .int .u8 0, .int .u8 0, .int .u8 0, .int .u8 0, .int .u8 0, .int .u8 0, .int .u8 0, .int .u8 0, .int .u8 0, .int .u8 0, .int .u8 0, .int .u8 0, .int .u8 0, .int .u8 0, .int .u8 0, .int .i64 0, .int .i64 0, .int .i64 0, .int .i64 0, .slice none 0 0] 30) w.heap.size (by simp)).trans (heap_alloc_new w (.cells (n.row a c).toArray 30))
  have hres := heap_alloc_new (w.alloc (.cells (n.row a c).toArray 30)) (.cells #[.string ⟨#[]⟩, .int .i64 0, .int .i64 0, .int .i64 0, .int .u8 0, .int .u8 0, .int .u8 0, .int .u8 0, .int .u8 0, .int .u8 0, .int .u8 0, .int .u8 0, .int .u8 0, .int .u8 0, .int .u8 0, .int .u8 0, .int .u8 0, .int .u8 0, .int .u8 0, .int .u8 0, .int .u8 0, .int .u8 0, .int .u8 0, .int .u8 0, .int .u8 0, .int .u8 0, .int .u8 0, .int .u8 0, .int .u8 0, .int .u8 0, .int .u8 0, .int .u8 0, .int .u8 0, .int .u8 0, .int .u8 0, .int .u8 0, .int .i64 0, .int .i64 0, .int .i64 0, .int .i64 0, .slice none 0 0] 30)
  have hbl := on_alloc (on_alloc (Below.refl _ w) (.cells (n.row a c).toArray 30)) (.cells #[.string ⟨#[]⟩, .int .i64 0, .int .i64 0, .int .i64 0, .int .u8 0, .int .u8 0, .int .u8 0, .int .u8 0, .int .u8 0, .int .u8 0, .int .u8 0, .int .u8 0, .int .u8 0, .int .u8 0, .int .u8 0, .int .u8 0, .int .u8 0, .int .u8 0, .int .u8 0, .int .u8 0, .int .u8 0, .int .u8 0, .int .u8 0, .int .u8 0, .int .u8 0, .int .u8 0, .int .u8 0, .int .u8 0, .int .u8 0, .int .u8 0, .int .u8 0, .int .u8 0, .int .u8 0, .int .u8 0, .int .u8 0, .int .u8 0, .int .i64 0, .int .i64 0, .int .i64 0, .int .i64 0, .slice none 0 0] 30)
  rw [World.size_alloc] at hres
  generalize (w.alloc (.cells (n.row a c).toArray 30)).alloc (.cells #[.string ⟨#[]⟩, .int .i64 0, .int .i64 0, .int .i64 0, .int .u8 0, .int .u8 0, .int .u8 0, .int .u8 0, .int .u8 0, .int .u8 0, .int .u8 0, .int .u8 0, .int .u8 0, .int .u8 0, .int .u8 0, .int .u8 0, .int .u8 0, .int .u8 0, .int .u8 0, .int .u8 0, .int .u8 0, .int .u8 0, .int .u8 0, .int .u8 0, .int .u8 0, .int .u8 0, .int .u8 0, .int .u8 0, .int .u8 0, .int .u8 0, .int .u8 0, .int .u8 0, .int .u8 0, .int .u8 0, .int .u8 0, .int .u8 0, .int .i64 0, .int .i64 0, .int .i64 0, .int .i64 0, .slice none 0 0] 30) = w2 at hbx hres hbl ⊢
  obtain ⟨Z, hZ⟩ : ∃ Z : Array Value, Z = #[.string ⟨#[]⟩, .int .i64 0, .int .i64 0, .int .i64 0, .int .u8 0, .int .u8 0, .int .u8 0, .int .u8 0, .int .u8 0, .int .u8 0, .int .u8 0, .int .u8 0, .int .u8 0, .int .u8 0, .int .u8 0, .int .u8 0, .int .u8 0, .int .u8 0, .int .u8 0, .int .u8 0, .int .u8 0, .int .u8 0, .int .u8 0, .int .u8 0, .int .u8 0, .int .u8 0, .int .u8 0, .int .u8 0, .int .u8 0, .int .u8 0, .int .u8 0, .int .u8 0, .int .u8 0, .int .u8 0, .int .u8 0, .int .u8 0, .int .i64 0, .int .i64 0, .int .i64 0, .int .i64 0, .slice none 0 0] := ⟨_, rfl⟩
  obtain ⟨B, hB⟩ : ∃ B, B = w.heap.size := ⟨_, rfl⟩
  obtain ⟨R, hR⟩ : ∃ R, R = w.heap.size + 1 := ⟨_, rfl⟩
  have hZs := Lib.hid (show Z.size = 41 by rw [hZ]; rfl)
  rw [← hZ, ← hR] at hres
  rw [← hB] at hbx
  (try rw [World.size_alloc])
  rw [← hR, ← hB]
  have hRw : w.heap.size ≤ R := by omega
  have hBw : w.heap.size ≤ B := by omega
  have hBR : B ≠ R := by omega
  have hRB : R ≠ B := by omega
  have hB2 : B < w2.heap.size := lt_heap hbx
  have hR2 : R < w2.heap.size := lt_heap hres
  have hw2 := hbl.size
  have Hbx := Lib.hid hbx
  have Hres := Lib.hid hres
  have Hbl := Lib.hid hbl
  clear hbx hres hbl hZ hB hR
  obtain ⟨D, hD⟩ : ∃ D : Array Value, D = (noNd.row none 0).toArray := ⟨_, rfl⟩
  have Ds := Lib.hid (show D.size = 41 by rw [hD]; rfl)
  have Do := Lib.hid (show D.all (·.oneCell') = true by rw [hD]; exact all_one (nrow_one _ _ _ _ _ _))
  have Hbd := Lib.hid (fun w => bld_noNd w)
  rw [← hD] at Hbd
  have HD := Lib.hid hD
  clear hD
  by_cases h0 : splitErr s 64 = 0
  rotate_left
  · have hsn : subAt n s = none := by unfold subAt; rw [if_neg h0]
    have hsN : subN n s = noNd := by unfold subN; rw [hsn]; rfl
    have hc := refSplit_bad w2 s 64 (by decide) hs h0
    have hE : (splitErr s 64 != 0) = true := by rw [bne_iff_ne]; exact h0
    obtain ⟨E, hEe⟩ : ∃ E, E = splitErr s 64 := ⟨_, rfl⟩
    rw [← hEe] at hc hE
    have Hc := Lib.hid hc
    have Hsn := Lib.hid (And.intro hsn hsN)
    clear hc hEe h0 hsn hsN
    go_wp2_with fail
    refine Hc.out.mono ?_
    rintro e3 w3 ⟨rfl, hb3⟩
    have Hres3 := Lib.hid ((hb3.block R hR2).trans Hres.out)
    have Hbl3 := Lib.hid (below_on Hbl.out hb3)
    clear hb3
    go_wp2_with (first | (refine wpList_build_eq (by rfl) 30 #[] rfl #[] (by kernel_rfl) (.agg D) (Hbd.out _) ?_) | (refine wpList_store_rowg rfl 30 (.tmp 4) (.tmp 16) rfl R D rfl rfl 30 Z Hres3.out (by rw [Ds.out]; kernel_rfl) (by rw [Ds.out, hZs.out]) Do.out ?_))
    intro wz hrz huz
    go_wp2
    refine bodyPost_ret (results_row_tmp (P := Try.prog) Try.results92 _ _ R 30 D (0, 0) _ rfl hrz Try.underlying30 rfl (by rw [Ds.out]; kernel_rfl) (.bool false) rfl) rfl ⟨none, 0, by rw [HD.out, Hsn.out.1, Hsn.out.2]; rfl, by rw [Hsn.out.2]; exact noNd_in _ _, Hbl3.out.upd (Nat.le_refl _) huz (fun b hb => by omega)⟩
  · have hsn : subAt n s = subOf n (pieces s) := by unfold subAt; rw [if_pos h0]
    have Hsn := Lib.hid hsn
    have hc := refSplit_ok w2 s 64 (by decide) hs h0
    have Hc := Lib.hid hc
    have hl64 := (splitErr_zero h0).1
    clear hc h0 hsn
    go_wp2_with fail
    refine Hc.out.mono ?_
    rintro e3 w3 ⟨nl, al, cl, rfl, hnl, hown, hb3, hfr⟩
    obtain ⟨L, hL⟩ : ∃ L, L = pieces s := ⟨_, rfl⟩
    rw [← hL] at hnl hown hl64 Hsn
    have Hsl := Lib.hid hown.sl
    have Hfr := Lib.hid hfr
    have hnl64 : nl ≤ 64 := by omega
    have Hbx3 := Lib.hid ((hb3.block B hB2).trans Hbx.out)
    have Hres3 := Lib.hid ((hb3.block R hR2).trans Hres.out)
    have Hbl3 := Lib.hid (below_on Hbl.out hb3)
    have hw3 : w2.heap.size ≤ w3.heap.size := hb3.size
    have Hn3 := Lib.hid ((Hn.out.below Hbl.out).below hb3)
    clear hown hfr hb3 hL Hc Hbx Hres
    go_wp2_with fail
    go_loopw [8] (fun i wr => ∃ (k : Nat) (m : Nd) (a' : Option Addr) (c' : Nat), k ≤ nl ∧ i = .int .i64 k ∧ wr.heap[B]? = some (.cells (m.row a' c').toArray 30 (0, 0)) ∧ wr.heap[R]? = some (.cells Z 30 (0, 0)) ∧ NodeIn wr F d m a' ∧ m = goR n (L.take k) ∧ Upd (fun b => b = B) w3 wr) (fun i _ => nl - (intOf i).toNat)
    case atStart => exact ⟨0, n, a, c, Nat.zero_le _, rfl, Hbx3.out, Hres3.out, Hn3.out, rfl, Upd.refl _ _⟩
    case round =>
      obtain ⟨k, m, a', c', hk, rfl, hbk, hrs, hmn, hme, hu3⟩ := hrel
      have Hbk := Lib.hid hbk
      have Hrs := Lib.hid hrs
      have Hm := Lib.hid hmn
      have Hme := Lib.hid hme
      have Hu3 := Lib.hid hu3
      have hm41 := Lib.hid (row_len (a := a') (c := c') hmn.vwf)
      have hmp : m.parts ≤ 1000000 := by rw [hme]; exact goR_parts _ _ hpt
      have f1 : wr.cell? ⟨B, 1, none⟩ = some (.int .i64 m.v.kind) := by
        have h := (vl_at (nrow_at (o := 0) hmn.vwf (rangeAt_row hbk)).2.1).1
        simpa using h
      have hBr : B < wr.heap.size := lt_heap hbk
      have hRr : R < wr.heap.size := lt_heap hrs
      have hw3r := hu3.size
      clear hbk hrs hmn hme hu3
      by_cases hlt : k < nl
      · have i1 : (0 : Int) ≤ (k : Int) := by omega
        have i2 : (k : Int) < (nl : Int) := by omega
        obtain ⟨x, hx⟩ : ∃ x, x = L[k]'(by omega) := ⟨_, rfl⟩
        obtain ⟨g, off, hal, _, hcc⟩ := Hsl.out.open_ (by simp [strs]; omega)
        have hg0 := hcc k (.string x) (by simp [strs, hx, List.getElem?_eq_getElem (show k < L.length by omega)])
        have hgw2 : w2.heap.size ≤ g := Hfr.out g (by rw [hal]; rfl)
        have hgB : ¬ g = B := by omega
        have f0 : wr.cell? ⟨g, off + k, none⟩ = some (.string x) := Hu3.out.cell hg0 hgB
        have hgw : g < wr.heap.size := Nat.lt_of_lt_of_le (World.block_lt_of_cell? w3 _ hg0) hw3r
        have Hgo := Lib.hid (show kidOr m.kids x = goR n (L.take (k + 1)) by rw [goR_step n L k (by omega), ← Hme.out, hx])
        have HSd := Lib.hid (show wr.drew.cell? ⟨g, off + k, none⟩ = some (.string x) from f0)
        have Hbd2 := Lib.hid (show wr.drew.heap[B]? = some (.cells (m.row a' c').toArray 30 (0, 0)) from Hbk.out)
        have Hcall := Lib.hid (refKid_ok F d wr.drew m x a' c' ((Hm.out.kept ((Upd.refl (fun _ => False) wr).drew) (fun _ _ => id)).deeper (Nat.le_succ d)) (fun b hb => Nat.lt_of_lt_of_le (hF b hb) (by show w.heap.size ≤ wr.heap.size; omega)) hmp)
        subst hal
        clear hcc hx
        go_upto_region 7 with fail
        refine wp_region_noPanic ?_
        refine wp_region_held_drew (S := (fun w' => w'.cell? ⟨g, off + k, none⟩ = some (.string x))) (by kernel_rfl) HSd.out (fun hHeld => ?_)
        refine wpAnyH_take (i := 1) (v := ?_) rfl (by kernel_rfl) (by kernel_rfl) (by kernel_rfl) (fun _ _ _ h => h) (Or.inl ⟨by rfl, ?_⟩) (by assumption) ?_
        rotate_left
        · intro w hSw; (try dsimp only at hSw); go_simp; (try with_reducible rfl)
        (try simp only [List.getElem_toArray, List.getElem_cons_succ, List.getElem_cons_zero, Act.put, List.setIfInBounds_toArray, List.set_cons_zero, List.set_cons_succ])
        refine wpAnyH_take (i := 2) (v := ?_) rfl (by kernel_rfl) (by kernel_rfl) (by kernel_rfl) (fun _ _ _ h => h) (Or.inl ⟨by rfl, ?_⟩) (by assumption) ?_
        rotate_left
        · intro w hSw; (try dsimp only at hSw); go_simp; (try with_reducible rfl)
        (try simp only [List.getElem_toArray, List.getElem_cons_succ, List.getElem_cons_zero, Act.put, List.setIfInBounds_toArray, List.set_cons_zero, List.set_cons_succ])
        refine wpAnyH_take (i := 3) (v := ?_) rfl (by kernel_rfl) (by kernel_rfl) (by kernel_rfl) (fun _ _ _ h => h) (Or.inl ⟨by rfl, ?_⟩) (by assumption) ?_
        rotate_left
        · intro w hSw; (try dsimp only at hSw); go_simp; (try with_reducible rfl)
        (try simp only [List.getElem_toArray, List.getElem_cons_succ, List.getElem_cons_zero, Act.put, List.setIfInBounds_toArray, List.set_cons_zero, List.set_cons_succ])
        refine wpAnyH_take (i := 4) (v := ?_) rfl (by kernel_rfl) (by kernel_rfl) (by kernel_rfl) (fun _ _ _ h => h) (Or.inl ⟨by rfl, ?_⟩) (by assumption) ?_
        rotate_left
        · intro w hSw; (try dsimp only at hSw); go_simp; (try with_reducible rfl)
        (try simp only [List.getElem_toArray, List.getElem_cons_succ, List.getElem_cons_zero, Act.put, List.setIfInBounds_toArray, List.set_cons_zero, List.set_cons_succ])
        refine wpAnyH_ready (rs := [0]) (by kernel_rfl) (by simp) ?_
        refine AllReadyH.cons rfl (fun K hK => ?_) AllReadyH.nil
        rw [if_pos (by rfl)]
        refine wp_load_mid 30 (.tmp 2) rfl B 0 rfl (m.row a' c') _ (rangeAt_row Hbd2.out) Try.underlying30 rfl (by rw [hm41.out]; kernel_rfl) ?_
        refine hK.out _ _ HSd.out (fun hHeld => ?_)
        clear hK K
        (try simp only [List.getElem_toArray, List.getElem_cons_succ, List.getElem_cons_zero, Act.put, List.setIfInBounds_toArray, List.set_cons_zero, List.set_cons_succ])
        refine wpAnyH_ready (rs := [5]) (by kernel_rfl) (by simp) ?_
        refine AllReadyH.cons rfl (fun K hK => ?_) AllReadyH.nil
        go_simp
        refine Hcall.out.mono ?_
        rintro e8 w8 ⟨a8, c8, rfl, hn8, hb8⟩
        have hb8' : Below wr.heap.size wr w8 := below_on (on_drew (Below.refl wr.heap.size wr)) hb8
        have HS8 := Lib.hid (show w8.cell? ⟨g, off + k, none⟩ = some (.string x) from (hb8'.cell hgw).trans f0)
        have Hb8 := Lib.hid hb8'
        have Hn8 := Lib.hid hn8
        have Hbk8 := Lib.hid ((hb8'.block B hBr).trans Hbk.out)
        obtain ⟨y, hy⟩ : ∃ y, y = kidOr m.kids x := ⟨_, rfl⟩
        rw [← hy] at Hn8
        rw [← hy]
        have Hy := Lib.hid hy
        have hy41s := Lib.hid (show (y.row a8 c8).toArray.size = 41 by rw [List.size_toArray]; exact row_len Hn8.out.vwf)
        have Hth := Lib.hid (show w8.there B 0 41 from there_rowR Hbk8.out 0 41 (by rw [List.size_toArray, hm41.out]; omega))
        have hse := heap_setCells8 w8 B (m.row a' c') (y.row a8 c8) Hbk8.out (by rw [hm41.out, row_len Hn8.out.vwf])
        have hsu := upd_setCells w8 B 0 (y.row a8 c8)
        obtain ⟨w9, hw9⟩ : ∃ w9, w9 = w8.setCells B 0 (y.row a8 c8).toArray.toList := ⟨_, rfl⟩
        rw [show w8.setCells B 0 (y.row a8 c8) = w9 from hw9.symm] at hse hsu
        have Hw9 := Lib.hid hw9
        have Hse := Lib.hid hse
        have Hsu := Lib.hid hsu
        have HS9 := Lib.hid (show w9.cell? ⟨g, off + k, none⟩ = some (.string x) from hsu.cell HS8.out (fun e => hgB e))
        clear hb8 hb8' hn8 hy hw9 hse hsu Hcall
        (try go_wp2_with fail)
        refine hK.out _ _ HS8.out (fun hHeld => ?_)
        clear hK K
        (try simp only [List.getElem_toArray, List.getElem_cons_succ, List.getElem_cons_zero, Act.put, List.setIfInBounds_toArray, List.set_cons_zero, List.set_cons_succ])
        refine wpAnyH_ready (rs := [6]) (by kernel_rfl) (by simp) ?_
        refine AllReadyH.cons rfl (fun K hK => ?_) AllReadyH.nil
        rw [if_pos (by rfl)]
        refine wp_store_mid 30 (.tmp 2) (.tmp 28) rfl B 0 (y.row a8 c8).toArray rfl rfl (by rw [hy41s.out]; exact Hth.out) (by rw [hy41s.out]; kernel_rfl) (all_one (nrow_one _ _ _ _ _ _)) ?_
        rw [← Hw9.out]
        refine hK.out _ _ HS9.out (fun hHeld => ?_)
        clear hK K
        (try simp only [List.getElem_toArray, List.getElem_cons_succ, List.getElem_cons_zero, Act.put, List.setIfInBounds_toArray, List.set_cons_zero, List.set_cons_succ])
        refine wpAnyH_done (by kernel_rfl) ?_ _
        refine NoPanic.normal ?_
        have hu9 : Upd (fun b => b = B) wr w9 := (Upd.below Hb8.out (fun b => b = B)).trans Hsu.out
        have Hn9 := Lib.hid (Hn8.out.kept Hsu.out (fun b hb e => by have e' : b = B := e; have := hF b hb; omega))
        have Hrs9 := Lib.hid (hu9.at_ Hrs.out hRB)
        have Hu9 := Lib.hid (Hu3.out.trans hu9)
        clear hHeld hu9 f0 f1
        go_wp2_with fail
        go_roundw
        case rel => exact ⟨k + 1, y, a8, c8, hlt, by go_num, Hse.out, Hrs9.out, Hn9.out, by rw [Hy.out]; exact Hgo.out, Hu9.out⟩
        case measure => simp [intOf]; omega
      · obtain rfl : k = nl := by omega
        have hme2 : m = (subOf n L).getD noNd := by rw [Hme.out, List.take_of_length_le (by omega), goR_eq]
        have hblr : Below w.heap.size w wr := Hbl3.out.upd (Nat.le_refl _) Hu3.out (fun b hb => by have hb' : b = B := hb; omega)
        have Hblr := Lib.hid hblr
        clear hlt hblr
        cases hsb : subOf n L with
        | none =>
          have hm0 : m = noNd := by rw [hme2, hsb]; rfl
          have hsN : subN n s = noNd := by unfold subN; rw [Hsn.out, hsb]; rfl
          have HsN := Lib.hid (And.intro (show subAt n s = none by rw [Hsn.out, hsb]) hsN)
          have q1 : (m.v.kind == 0) = true := by rw [hm0]; rfl
          clear hm0 hsN hsb hme2
          go_wp2_with (first | (refine wpList_build_eq (by rfl) 30 #[] rfl #[] (by kernel_rfl) (.agg D) (Hbd.out _) ?_) | (refine wpList_store_rowg rfl 30 (.tmp 4) (.tmp 33) rfl R D rfl rfl 30 Z Hrs.out (by rw [Ds.out]; kernel_rfl) (by rw [Ds.out, hZs.out]) Do.out ?_))
          intro wz hrz huz
          go_wp2
          refine bodyPost_ret (results_row_tmp (P := Try.prog) Try.results92 _ _ R 30 D (0, 0) _ rfl hrz Try.underlying30 rfl (by rw [Ds.out]; kernel_rfl) (.bool false) rfl) rfl ⟨none, 0, by rw [HD.out, HsN.out.1, HsN.out.2]; rfl, by rw [HsN.out.2]; exact noNd_in _ _, Hblr.out.upd (Nat.le_refl _) huz (fun b hb => by omega)⟩
        | some x =>
          obtain rfl : m = x := by rw [hme2, hsb]; rfl
          have hsN : subN n s = m.named ⟨#[]⟩ := by unfold subN; rw [Hsn.out, hsb]; rfl
          have HsN := Lib.hid (And.intro (show (subAt n s).isSome = true by rw [Hsn.out, hsb]; rfl) hsN)
          have hk0 := sub_kinded _ _ _ Hkd.out hsb
          rw [kinded_eq] at hk0
          have q1 := beq_f hk0.1
          clear hsN hsb hme2 hk0
          go_wp2_with (refine wpList_load_midg (by rfl) 30 (.tmp 2) rfl B 0 rfl (m.row a' c') _ (rangeAt_row Hbk.out) Try.underlying30 rfl (by rw [hm41.out]; kernel_rfl) ?_)
          refine (plain_ok F d wr m a' c' Hm.out (fun b hb => Nat.lt_of_lt_of_le (hF b hb) (by omega)) hmp).mono ?_
          rintro e5 w5 ⟨a5, c5, rfl, hn5, hb5⟩
          have Hn5 := Lib.hid (hn5.mono (G := fun b => wr.heap.size ≤ b) (fun b hb _ => hb))
          have Hb5 := Lib.hid (below_on Hblr.out hb5)
          have Hrs5 := Lib.hid ((hb5.block R hRr).trans Hrs.out)
          obtain ⟨E, hE⟩ : ∃ E : Array Value, E = ((m.named ⟨#[]⟩).row a5 c5).toArray := ⟨_, rfl⟩
          have Es := Lib.hid (show E.size = 41 by rw [hE, List.size_toArray]; exact row_len hn5.vwf)
          have Eo := Lib.hid (show E.all (·.oneCell') = true by rw [hE]; exact all_one (nrow_one _ _ _ _ _ _))
          have HE := Lib.hid hE
          rw [← hE]
          clear hE hn5 hb5
          go_wp2_with (refine wpList_store_rowg rfl 30 (.tmp 4) (.tmp 35) rfl R E rfl rfl 30 Z Hrs5.out (by rw [Es.out]; kernel_rfl) (by rw [Es.out, hZs.out]) Eo.out ?_)
          intro wz hrz huz
          go_wp2
          refine bodyPost_ret (results_row_tmp (P := Try.prog) Try.results92 _ _ R 30 E (0, 0) _ rfl hrz Try.underlying30 rfl (by rw [Es.out]; kernel_rfl) (.bool true) rfl) rfl ⟨a5, c5, by rw [HE.out, HsN.out.1, HsN.out.2], ?_, Hb5.out.upd (Nat.le_refl _) huz (fun b hb => by omega)⟩
          rw [HsN.out.2]
          exact (Hn5.out.kept huz (fun b hb e => by have e' : b = R := e; have hb' : wr.heap.size ≤ b := hb; omega)).mono (fun b hb _ => by have hb' : wr.heap.size ≤ b := hb; omega)
end Go.Proofs.Ythnbinlllmkabaa
