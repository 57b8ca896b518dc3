/- The tree's node. -/
import Derived.Test.YthnbinlllmkabaaIter
import Derived.Test.YthnbinlllmkabaaTNode
import Derived.Test.YthnbinlllmkabaaNodeS
namespace Go.Proofs.Ythnbinlllmkabaa
open Go.RowKit Go.Shelf
set_option linter.unusedVariables false
set_option linter.unusedSimpArgs false
attribute [local go_sem] Oper.semAt_some

set_option maxRecDepth 100000 in
theorem build_nvm (nm : ByteArray) (v : Vl) (m : Mk × Mk) (hv : v.sum.length = 32) (w : World) :
    (Instr.build 30 #[(0, .string nm), (1, .agg v.cells.toArray), (2, .agg (mcells m).toArray)]).run Try.prog w = .ok (.agg (nrow nm v m (.slice none 0 0)).toArray) w := by
  obtain ⟨kd, md, sz, sm⟩ := v
  obtain ⟨⟨x0, x1⟩, ⟨x2, x3⟩⟩ := m
  obtain ⟨b0, b1, b2, b3, b4, b5, b6, b7, b8, b9, b10, b11, b12, b13, b14, b15, b16, b17, b18, b19, b20, b21, b22, b23, b24, b25, b26, b27, b28, b29, b30, b31, hl⟩ := list32 sm hv
  subst hl
  exact run_build w _ _ _ (by kernel_rfl)
/-- Nothing. -/
def zeroNd : Nd := .mk ⟨#[]⟩ ⟨0, 0, 0, zeros⟩ noMk []
theorem zeroNd_wf : zeroNd.v.wf := by refine ⟨rfl, ?_, ?_, ?_⟩ <;> (show i64 0; constructor <;> decide)
def zrow : List Value := zeroNd.row none 0
theorem zrow_len : zrow.length = 41 := row_len (zeroNd_wf)
theorem zrow_one : ∀ u ∈ zrow, u.oneCell' = true := nrow_one _ _ _ _ _ _
set_option maxRecDepth 100000 in
theorem zero_slice (w : World) : ∃ w' : World, (Instr.buildSlice 28 1 #[(0, .agg zrow.toArray)]).run Try.prog w = .ok (.slice (some ⟨w.heap.size, 0, none⟩) 1 1) w' ∧ Below w.heap.size w w' ∧ Sl w' 41 (.slice (some ⟨w.heap.size, 0, none⟩) 1 1) 1 zrow ∧ w'.heap.size = w.heap.size + 1 :=
  ⟨_, build_node (zeroNd) none 0 rfl w, on_alloc (Below.refl _ _) _, Sl.made _ _ _ _ _ _ _ _ (List.toList_toArray ..) (by rw [zrow_len]) (by omega), World.size_alloc _ _⟩
theorem Own.below_ {w w' : World} {e : TypeId} {size n : Nat} {v : Value} {xs : List Value} (h : Own w e size v n xs) (hb : Below w.heap.size w w') : Own w' e size v n xs := h.kept (Upd.below hb fun _ => False) (fun _ _ => id)
def NodeOk (d : Nat) : Prop := ∀ (F : Nat → Prop) (w : World) (p : Nat) (n : Nd) (nm : ByteArray), TreeAt w F d p n → (∀ b, F b → b < w.heap.size) → n.parts ≤ 1000000 → nm.size ≤ 9223372036854775807 →
  Calls Try.prog 95 #[.pointer (some ⟨p, 0, none⟩), .string nm] w fun e w3 => ∃ (a' : Option Addr) (c' : Nat), e = .returned (.agg ((n.named nm).row a' c').toArray) ∧ NodeIn w3 (fun b => w.heap.size ≤ b) d (n.named nm) a' ∧ Below w.heap.size w w3
set_option maxHeartbeats 4000000 in
set_option maxRecDepth 100000 in
theorem node_step (d : Nat) (ih : NodeOk d) : NodeOk (d + 1) := by
  intro F w p n nm ht hF hpt hnm
  have Ih := Lib.hid ih
  have Ht := Lib.hid ht
  have Hpt := Lib.hid hpt
  obtain ⟨h1, hv, hmw, an, ak, cn, ck, ps, hrow, hsn, hsk, hFn, hFk, hpl, hcn, hck, hkids⟩ := ht
  have Hkids := Lib.hid hkids
  have Hsn := Lib.hid hsn
  have Hsk := Lib.hid hsk
  have Hrow := Lib.hid hrow
  have hpw := lt_heap hrow
  clear hrow hkids hsn hsk hpt ih
  refine (callsIn_wide (n := 3)).1 (callsIn_of_wp_marks Try.func95 rfl trivial (wpIn_wide.2 ?_) rfl)
  simp only [Try.ntmps95, List.size_toArray, List.length_cons, List.length_nil, Nat.reduceAdd, Nat.reduceSub, Array.replicate_succ, Array.replicate_zero, List.push_toArray, List.append_toArray, List.nil_append, List.cons_append]
  go_wp2_with fail
  have hres := heap_alloc_new w (.cells #[.string ⟨#[]⟩, .int .i64 0, .int .i64 0, .int .i64 0, .int .u8 0, .int .u8 0, .int .u8 0, .int .u8 0, .int .u8 0, .int .u8 0, .int .u8 0, .int .u8 0, .int .u8 0, .int .u8 0, .int .u8 0, .int .u8 0, .int .u8 0, .int .u8 0, .int .u8 0, .int .u8 0, .int .u8 0, .int .u8 0, .int .u8 0, .int .u8 0, .int .u8 0, .int .u8 0, .int .u8 0, .int .u8 0, .int .u8 0, .int .u8 0, .int .u8 0, .int .u8 0, .int .u8 0, .int .u8 0, .int .u8 0, .int .u8 0, .int .i64 0, .int .i64 0, .int .i64 0, .int .i64 0, .slice none 0 0] 30)
  have hbl := on_alloc (Below.refl _ w) (.cells #[.string ⟨#[]⟩, .int .i64 0, .int .i64 0, .int .i64 0, .int .u8 0, .int .u8 0, .int .u8 0, .int .u8 0, .int .u8 0, .int .u8 0, .int .u8 0, .int .u8 0, .int .u8 0, .int .u8 0, .int .u8 0, .int .u8 0, .int .u8 0, .int .u8 0, .int .u8 0, .int .u8 0, .int .u8 0, .int .u8 0, .int .u8 0, .int .u8 0, .int .u8 0, .int .u8 0, .int .u8 0, .int .u8 0, .int .u8 0, .int .u8 0, .int .u8 0, .int .u8 0, .int .u8 0, .int .u8 0, .int .u8 0, .int .u8 0, .int .i64 0, .int .i64 0, .int .i64 0, .int .i64 0, .slice none 0 0] 30)
  have hsz : (w.alloc (.cells #[.string ⟨#[]⟩, .int .i64 0, .int .i64 0, .int .i64 0, .int .u8 0, .int .u8 0, .int .u8 0, .int .u8 0, .int .u8 0, .int .u8 0, .int .u8 0, .int .u8 0, .int .u8 0, .int .u8 0, .int .u8 0, .int .u8 0, .int .u8 0, .int .u8 0, .int .u8 0, .int .u8 0, .int .u8 0, .int .u8 0, .int .u8 0, .int .u8 0, .int .u8 0, .int .u8 0, .int .u8 0, .int .u8 0, .int .u8 0, .int .u8 0, .int .u8 0, .int .u8 0, .int .u8 0, .int .u8 0, .int .u8 0, .int .u8 0, .int .i64 0, .int .i64 0, .int .i64 0, .int .i64 0, .slice none 0 0] 30)).heap.size = w.heap.size + 1 := by rw [World.size_alloc]
  generalize w.alloc (.cells #[.string ⟨#[]⟩, .int .i64 0, .int .i64 0, .int .i64 0, .int .u8 0, .int .u8 0, .int .u8 0, .int .u8 0, .int .u8 0, .int .u8 0, .int .u8 0, .int .u8 0, .int .u8 0, .int .u8 0, .int .u8 0, .int .u8 0, .int .u8 0, .int .u8 0, .int .u8 0, .int .u8 0, .int .u8 0, .int .u8 0, .int .u8 0, .int .u8 0, .int .u8 0, .int .u8 0, .int .u8 0, .int .u8 0, .int .u8 0, .int .u8 0, .int .u8 0, .int .u8 0, .int .u8 0, .int .u8 0, .int .u8 0, .int .u8 0, .int .i64 0, .int .i64 0, .int .i64 0, .int .i64 0, .slice none 0 0] 30) = w2 at hres hbl hsz ⊢
  obtain ⟨R, hR⟩ : ∃ R, R = w.heap.size := ⟨_, rfl⟩
  rw [← hR] at hres
  rw [← hR]
  obtain ⟨ra, rb⟩ := trow_at (o := 0) hv (rangeAt_row Hrow.out)
  have inf35 : (Try.prog.info? 24).map (·.size) = some n.v.cells.length := by rw [n.v.cells_length hv]; kernel_rfl
  have inf4 : (Try.prog.info? 27).map (·.size) = some (mcells n.m).length := by kernel_rfl
  have und35 := Try.underlying24
  have und4 := Try.underlying27
  have HK := Lib.hid (show ∀ w', Below w2.heap.size w2 w' → w'.rangeAt p 0 n.v.cells ∧ w'.rangeAt p 35 (mcells n.m) from fun w' hb => ⟨rangeAt_kept ra (Upd.below (below_on hbl hb) (fun _ => False)) id, rangeAt_kept rb.1 (Upd.below (below_on hbl hb) (fun _ => False)) id⟩)
  have Hres := Lib.hid hres
  have Hbl := Lib.hid hbl
  have Hsz := Lib.hid hsz
  have HR := Lib.hid hR
  clear ra rb hres hbl hsz hR
  refine wp_region_noPanic ?_
  refine wp_region_held_drew (S := (fun w' => w'.rangeAt p 0 n.v.cells ∧ w'.rangeAt p 35 (mcells n.m))) (by kernel_rfl) ?_ (fun hHeld => ?_)
  · (try dsimp only); exact HK.out _ (on_drew (Below.refl _ _))
  refine wpAnyH_take (i := 0) (v := ?_) rfl (by kernel_rfl) (by kernel_rfl) (by kernel_rfl) (fun _ _ _ h => h) (Or.inl ⟨by rfl, ?_⟩) (by assumption) ?_
  rotate_left
  · intro w hSw; (try dsimp only at hSw); go_simp; (try with_reducible rfl)
  (try simp only [List.getElem_toArray, List.getElem_cons_succ, List.getElem_cons_zero, Act.put, List.setIfInBounds_toArray, List.set_cons_zero, List.set_cons_succ])
  refine wpAnyH_take (i := 1) (v := ?_) rfl (by kernel_rfl) (by kernel_rfl) (by kernel_rfl) (fun _ _ _ h => h) (Or.inl ⟨by rfl, ?_⟩) (by assumption) ?_
  rotate_left
  · intro w hSw; (try dsimp only at hSw); go_simp; (try with_reducible rfl)
  (try simp only [List.getElem_toArray, List.getElem_cons_succ, List.getElem_cons_zero, Act.put, List.setIfInBounds_toArray, List.set_cons_zero, List.set_cons_succ])
  refine wpAnyH_take (i := 2) (v := ?_) rfl (by kernel_rfl) (by kernel_rfl) (by kernel_rfl) (fun _ _ _ h => h) (Or.inl ⟨by rfl, ?_⟩) (by assumption) ?_
  rotate_left
  · intro w hSw; (try dsimp only at hSw); go_simp; (try with_reducible rfl)
  (try simp only [List.getElem_toArray, List.getElem_cons_succ, List.getElem_cons_zero, Act.put, List.setIfInBounds_toArray, List.set_cons_zero, List.set_cons_succ])
  refine wpAnyH_take (i := 3) (v := ?_) rfl (by kernel_rfl) (by kernel_rfl) (by kernel_rfl) (fun _ _ _ h => h) (Or.inl ⟨by rfl, ?_⟩) (by assumption) ?_
  rotate_left
  · intro w hSw; (try dsimp only at hSw); go_simp; (try with_reducible rfl)
  (try simp only [List.getElem_toArray, List.getElem_cons_succ, List.getElem_cons_zero, Act.put, List.setIfInBounds_toArray, List.set_cons_zero, List.set_cons_succ])
  refine' wpAnyH_take (i := 4) (v := _) rfl (by kernel_rfl) (by kernel_rfl) (by kernel_rfl) (fun _ _ _ h => h) (yieldsIf_load_mid (by rfl) _ _ rfl _ _ rfl _ _ ?hS4 ?hu4 ?hd4 ?hi4) (by assumption) ?rest1
  case hS4 => (intro w hSw; (try dsimp only at hSw); go_split_ands; assumption)
  case hu4 => assumption
  case hd4 => rfl
  case hi4 => first | assumption | (simp only [*]; done)
  (try simp only [List.getElem_toArray, List.getElem_cons_succ, List.getElem_cons_zero, Act.put, List.setIfInBounds_toArray, List.set_cons_zero, List.set_cons_succ])
  refine wpAnyH_take (i := 5) (v := ?_) rfl (by kernel_rfl) (by kernel_rfl) (by kernel_rfl) (fun _ _ _ h => h) (Or.inl ⟨by rfl, ?_⟩) (by assumption) ?_
  rotate_left
  · intro w hSw; (try dsimp only at hSw); go_simp; (try with_reducible rfl)
  (try simp only [List.getElem_toArray, List.getElem_cons_succ, List.getElem_cons_zero, Act.put, List.setIfInBounds_toArray, List.set_cons_zero, List.set_cons_succ])
  refine wpAnyH_take (i := 6) (v := ?_) rfl (by kernel_rfl) (by kernel_rfl) (by kernel_rfl) (fun _ _ _ h => h) (Or.inl ⟨by rfl, ?_⟩) (by assumption) ?_
  rotate_left
  · intro w hSw; (try dsimp only at hSw); go_simp; (try with_reducible rfl)
  (try simp only [List.getElem_toArray, List.getElem_cons_succ, List.getElem_cons_zero, Act.put, List.setIfInBounds_toArray, List.set_cons_zero, List.set_cons_succ])
  refine wpAnyH_take (i := 7) (v := ?_) rfl (by kernel_rfl) (by kernel_rfl) (by kernel_rfl) (fun _ _ _ h => h) (Or.inl ⟨by rfl, ?_⟩) (by assumption) ?_
  rotate_left
  · intro w hSw; (try dsimp only at hSw); go_simp; (try with_reducible rfl)
  (try simp only [List.getElem_toArray, List.getElem_cons_succ, List.getElem_cons_zero, Act.put, List.setIfInBounds_toArray, List.set_cons_zero, List.set_cons_succ])
  refine' wpAnyH_take (i := 8) (v := _) rfl (by kernel_rfl) (by kernel_rfl) (by kernel_rfl) (fun _ _ _ h => h) (yieldsIf_load_mid (by rfl) _ _ rfl _ _ rfl _ _ ?hS8 ?hu8 ?hd8 ?hi8) (by assumption) ?rest2
  case hS8 => (intro w hSw; (try dsimp only at hSw); go_split_ands; assumption)
  case hu8 => assumption
  case hd8 => rfl
  case hi8 => first | assumption | (simp only [*]; done)
  (try simp only [List.getElem_toArray, List.getElem_cons_succ, List.getElem_cons_zero, Act.put, List.setIfInBounds_toArray, List.set_cons_zero, List.set_cons_succ])
  obtain ⟨C, hC⟩ : ∃ C, C = (nrow nm n.v n.m (.slice none 0 0)).toArray := ⟨_, rfl⟩
  have Hb := Lib.hid (show ∀ w, (Instr.build 30 #[(0, .string nm), (1, .agg n.v.cells.toArray), (2, .agg (mcells n.m).toArray)]).run Try.prog w = .ok (.agg C) w from fun w => by rw [hC]; exact build_nvm nm n.v n.m hv.1 w)
  have hCs : C.size = 41 := by rw [hC, List.size_toArray]; exact nrow_length hv
  have hCo : C.all (·.oneCell') = true := by rw [hC]; exact all_one (nrow_one _ _ _ _ _ _)
  have HC := Lib.hid hC
  clear hC
  refine wpAnyH_take (i := 9) (v := .agg C) rfl (by kernel_rfl) (by kernel_rfl) (by kernel_rfl) (fun _ _ _ h => h) (Or.inl ⟨by rfl, yields_build 30 #[(0, .tmp 8), (1, .tmp 12), (2, .tmp 16)] rfl #[(0, .string nm), (1, .agg n.v.cells.toArray), (2, .agg (mcells n.m).toArray)] (by kernel_rfl) (.agg C) Hb.out⟩) (by assumption) ?_
  (try simp only [List.getElem_toArray, List.getElem_cons_succ, List.getElem_cons_zero, Act.put, List.setIfInBounds_toArray, List.set_cons_zero, List.set_cons_succ])
  refine wpAnyH_ready (rs := [10]) (by kernel_rfl) (by simp) ?_
  refine AllReadyH.cons rfl (fun K hK => ?_) ?_
  rotate_left
  · exact AllReadyH.nil
  go_simp
  refine hK.out _ _ ?_ (fun hHeld => ?_)
  · exact HK.out _ (on_drew (on_alloc (Below.refl _ _) _))
  clear hK K
  (try simp only [List.getElem_toArray, List.getElem_cons_succ, List.getElem_cons_zero, Act.put, List.setIfInBounds_toArray, List.set_cons_zero, List.set_cons_succ])
  refine wpAnyH_ready (rs := [11]) (by kernel_rfl) (by simp) ?_
  refine AllReadyH.cons rfl (fun K hK => ?_) ?_
  rotate_left
  · exact AllReadyH.nil
  have hnw : ((w2.alloc (.cells #[.string ⟨#[]⟩, .int .i64 0, .int .i64 0, .int .i64 0, .int .u8 0, .int .u8 0, .int .u8 0, .int .u8 0, .int .u8 0, .int .u8 0, .int .u8 0, .int .u8 0, .int .u8 0, .int .u8 0, .int .u8 0, .int .u8 0, .int .u8 0, .int .u8 0, .int .u8 0, .int .u8 0, .int .u8 0, .int .u8 0, .int .u8 0, .int .u8 0, .int .u8 0, .int .u8 0, .int .u8 0, .int .u8 0, .int .u8 0, .int .u8 0, .int .u8 0, .int .u8 0, .int .u8 0, .int .u8 0, .int .u8 0, .int .u8 0, .int .i64 0, .int .i64 0, .int .i64 0, .int .i64 0, .slice none 0 0] 30)).drew).heap[w2.heap.size]? = some (.cells #[.string ⟨#[]⟩, .int .i64 0, .int .i64 0, .int .i64 0, .int .u8 0, .int .u8 0, .int .u8 0, .int .u8 0, .int .u8 0, .int .u8 0, .int .u8 0, .int .u8 0, .int .u8 0, .int .u8 0, .int .u8 0, .int .u8 0, .int .u8 0, .int .u8 0, .int .u8 0, .int .u8 0, .int .u8 0, .int .u8 0, .int .u8 0, .int .u8 0, .int .u8 0, .int .u8 0, .int .u8 0, .int .u8 0, .int .u8 0, .int .u8 0, .int .u8 0, .int .u8 0, .int .u8 0, .int .u8 0, .int .u8 0, .int .u8 0, .int .i64 0, .int .i64 0, .int .i64 0, .int .i64 0, .slice none 0 0] 30) := heap_alloc_new w2 _
  refine step_wp rfl (wp_store_row 30 (.tmp 5) (.tmp 17) rfl w2.heap.size C rfl rfl 30 _ hnw (by rw [hCs]; kernel_rfl) (by rw [hCs]; rfl) hCo ?_)
  have hB3 := setRow_heap _ w2.heap.size _ C 30 (0, 0) hnw
  have hb3 := below_setRow (on_drew (on_alloc (Below.refl w2.heap.size w2) (.cells #[.string ⟨#[]⟩, .int .i64 0, .int .i64 0, .int .i64 0, .int .u8 0, .int .u8 0, .int .u8 0, .int .u8 0, .int .u8 0, .int .u8 0, .int .u8 0, .int .u8 0, .int .u8 0, .int .u8 0, .int .u8 0, .int .u8 0, .int .u8 0, .int .u8 0, .int .u8 0, .int .u8 0, .int .u8 0, .int .u8 0, .int .u8 0, .int .u8 0, .int .u8 0, .int .u8 0, .int .u8 0, .int .u8 0, .int .u8 0, .int .u8 0, .int .u8 0, .int .u8 0, .int .u8 0, .int .u8 0, .int .u8 0, .int .u8 0, .int .i64 0, .int .i64 0, .int .i64 0, .int .i64 0, .slice none 0 0] 30))) (Nat.le_refl _) C
  refine hK.out _ _ ?_ (fun hHeld => ?_)
  · exact HK.out _ hb3
  clear hK K hHeld
  (try simp only [List.getElem_toArray, List.getElem_cons_succ, List.getElem_cons_zero, Act.put, List.setIfInBounds_toArray, List.set_cons_zero, List.set_cons_succ])
  refine wpAnyH_done (by kernel_rfl) ?_ _
  refine NoPanic.normal ?_
  have hs3 : ((w2.alloc (.cells #[.string ⟨#[]⟩, .int .i64 0, .int .i64 0, .int .i64 0, .int .u8 0, .int .u8 0, .int .u8 0, .int .u8 0, .int .u8 0, .int .u8 0, .int .u8 0, .int .u8 0, .int .u8 0, .int .u8 0, .int .u8 0, .int .u8 0, .int .u8 0, .int .u8 0, .int .u8 0, .int .u8 0, .int .u8 0, .int .u8 0, .int .u8 0, .int .u8 0, .int .u8 0, .int .u8 0, .int .u8 0, .int .u8 0, .int .u8 0, .int .u8 0, .int .u8 0, .int .u8 0, .int .u8 0, .int .u8 0, .int .u8 0, .int .u8 0, .int .i64 0, .int .i64 0, .int .i64 0, .int .i64 0, .slice none 0 0] 30)).drew.setRow w2.heap.size C).heap.size = w2.heap.size + 1 := by rw [setRow_size]; exact World.size_alloc _ _
  generalize (w2.alloc (.cells #[.string ⟨#[]⟩, .int .i64 0, .int .i64 0, .int .i64 0, .int .u8 0, .int .u8 0, .int .u8 0, .int .u8 0, .int .u8 0, .int .u8 0, .int .u8 0, .int .u8 0, .int .u8 0, .int .u8 0, .int .u8 0, .int .u8 0, .int .u8 0, .int .u8 0, .int .u8 0, .int .u8 0, .int .u8 0, .int .u8 0, .int .u8 0, .int .u8 0, .int .u8 0, .int .u8 0, .int .u8 0, .int .u8 0, .int .u8 0, .int .u8 0, .int .u8 0, .int .u8 0, .int .u8 0, .int .u8 0, .int .u8 0, .int .u8 0, .int .i64 0, .int .i64 0, .int .i64 0, .int .i64 0, .slice none 0 0] 30)).drew.setRow w2.heap.size C = w3 at hB3 hb3 hs3 ⊢
  clear hnw
  obtain ⟨B, hB⟩ : ∃ B, B = w2.heap.size := ⟨_, rfl⟩
  rw [← hB] at hB3
  rw [← hB]
  have HB := Lib.hid hB
  have HB3 := Lib.hid hB3
  clear hB
  have Hb3 := Lib.hid hb3
  clear hB3 hb3
  go_wp2_with (go_at_call 19; refine (children_any _ p).mono ?_; rintro e w' ⟨rfl, rfl⟩)
  -- LOOP
  obtain ⟨Bt, hBt⟩ : ∃ Bt, Bt = w2.heap.size + 1 := ⟨_, rfl⟩
  have hbox : (w3.alloc (.cells #[.pointer (some ⟨p, 0, none⟩)] 55)).cell? ⟨w3.heap.size, 0, none⟩ = some (.pointer (some ⟨p, 0, none⟩)) := cell_of_row _ w3.heap.size 0 _ _ _ (heap_alloc_new w3 (.cells #[.pointer (some ⟨p, 0, none⟩)] 55))
  rw [hs3, ← hBt] at hbox
  rw [← hBt]
  have hb4 := on_alloc (below_on Hbl.out Hb3.out) (.cells #[.pointer (some ⟨p, 0, none⟩)] 55)
  have hB4 : (w3.alloc (.cells #[.pointer (some ⟨p, 0, none⟩)] 55)).heap[B]? = some (.cells C 30 (0, 0)) := (Below.heap_alloc w3 _ B (lt_heap HB3.out)).trans HB3.out
  have hR3 : w3.heap[R]? = _ := (Hb3.out.block R (lt_heap Hres.out)).trans Hres.out
  have hR4 := (Below.heap_alloc w3 (.cells #[.pointer (some ⟨p, 0, none⟩)] 55) R (lt_heap hR3)).trans hR3
  have hs4 : (w3.alloc (.cells #[.pointer (some ⟨p, 0, none⟩)] 55)).heap.size = Bt + 1 := by rw [World.size_alloc, hs3, hBt]
  generalize w3.alloc (.cells #[.pointer (some ⟨p, 0, none⟩)] 55) = w4 at hbox hb4 hB4 hR4 hs4 ⊢
  have e1 := Hsz.out
  have e2 := HR.out
  have e3 := HB.out
  have hBn : B < w4.heap.size := by omega
  have hRB : R < B := by omega
  have hRw : w.heap.size ≤ R := by omega
  have hBtB : B < Bt := by omega
  have hBt4 : Bt < w4.heap.size := by omega
  rw [HC.out] at hB4
  obtain ⟨Z, hZ⟩ : ∃ Z : Array Value, Z = #[.string ⟨#[]⟩, .int .i64 0, .int .i64 0, .int .i64 0, .int .u8 0, .int .u8 0, .int .u8 0, .int .u8 0, .int .u8 0, .int .u8 0, .int .u8 0, .int .u8 0, .int .u8 0, .int .u8 0, .int .u8 0, .int .u8 0, .int .u8 0, .int .u8 0, .int .u8 0, .int .u8 0, .int .u8 0, .int .u8 0, .int .u8 0, .int .u8 0, .int .u8 0, .int .u8 0, .int .u8 0, .int .u8 0, .int .u8 0, .int .u8 0, .int .u8 0, .int .u8 0, .int .u8 0, .int .u8 0, .int .u8 0, .int .u8 0, .int .i64 0, .int .i64 0, .int .i64 0, .int .i64 0, .slice none 0 0] := ⟨_, rfl⟩
  rw [← hZ] at hR4
  have HZ := Lib.hid (show Z.size = 41 by rw [hZ]; rfl)
  have Hbox := Lib.hid hbox
  have Hb4 := Lib.hid hb4
  have HB4 := Lib.hid hB4
  have HR4 := Lib.hid hR4
  have Hh := Lib.hid hHeld
  obtain ⟨m, hm⟩ : ∃ m, m = n.kids.length := ⟨_, rfl⟩
  have hmp : m ≤ 1000000 := by have h1 := partsAll_len n.kids; have h2 := parts_eq n; have h3 := Hpt.out; omega
  obtain ⟨ndF, hndF⟩ : ∃ f : Fin m → Nd, f = fun i => n.kids[i.1]'(by have := i.2; omega) := ⟨_, rfl⟩
  obtain ⟨ptF, hptF⟩ : ∃ f : Fin m → Nat, f = fun i => ps[i.1]'(by have := i.2; omega) := ⟨_, rfl⟩
  obtain ⟨nmF, hnmF⟩ : ∃ f : Fin m → ByteArray, f = fun i => (ndF i).name := ⟨_, rfl⟩
  have HndF := Lib.hid (show ∀ i : Fin m, n.kids[i.1]? = some (ndF i) from fun i => by rw [hndF]; exact List.getElem?_eq_getElem _)
  have HptF := Lib.hid (show ∀ i : Fin m, ps[i.1]? = some (ptF i) from fun i => by rw [hptF]; exact List.getElem?_eq_getElem _)
  have HnmF := Lib.hid (show ∀ i : Fin m, nmF i = (ndF i).name from fun i => by rw [hnmF])
  have HndA := Lib.hid (show (List.finRange m).map ndF = n.kids by
    apply List.ext_getElem
    · simp [hm]
    · intro i h1 h2
      simp [hndF])
  have hkn : 0 < m → n.kids ≠ [] := fun h e => by rw [e] at hm; simp at hm; omega
  have Hm := Lib.hid hm
  have HBt := Lib.hid hBt
  clear hHeld hBt hbox hb4 hB4 hR3 hR4 hZ e1 e2 e3 hs3 hs4 hndF hptF hnmF hm
  obtain ⟨i0, hi, hz0, hz1, hz2⟩ := info_parts info_nodeF
  have hsub : ∀ b, F b → ¬ (b = B ∨ w4.heap.size ≤ b) := fun b hb => by have := hF b hb; have := Hb4.out.size; omega
  have Hkid := Lib.hid (show ∀ (i : Fin m) (W : World), Upd (fun b => b = B ∨ w4.heap.size ≤ b) w4 W → TreeAt W F d (ptF i) (ndF i) from fun i W hu => TreeAt.kept hu hsub _ _ _ ((Hkids.out i.1 _ _ (HptF.out i) (HndF.out i)).2.below Hb4.out))
  have Hsz2 := Lib.hid (show ∀ i : Fin m, (ndF i).name.size ≤ 9223372036854775807 ∧ (ndF i).parts ≤ 1000000 from fun i => by
    refine ⟨(Hkids.out i.1 _ _ (HptF.out i) (HndF.out i)).1, ?_⟩
    have h1 := HndF.out i
    obtain ⟨h2, h3⟩ := List.getElem?_eq_some_iff.1 h1
    have h4 := partsAll_get h2
    rw [h3] at h4
    have h5 := parts_eq n
    have h6 := Hpt.out
    omega)
  have tro := trow_at (o := 0) hv (rangeAt_row ((Hb4.out.block p hpw).trans Hrow.out))
  have hseq := children_stops 2 (by omega) w4 (fun b => b = B ∨ w4.heap.size ≤ b) Bt p m an ak cn ck nmF ptF hmp Hbox.out (by omega) (by have := tro.2.2.1; rw [← Hm.out] at this; simpa using this) (by have := tro.2.2.2.1; rw [← Hm.out] at this; simpa using this) (hsub p h1)
    (fun i => by
      obtain ⟨g, off, rfl, _, hc⟩ := Hsn.out.open_ (by simp [strs]; have := i.2; have := Hm.out; omega)
      refine ⟨g, off, rfl, hsub g (hFn g rfl (hkn (by have := i.2; omega))), ?_⟩
      have := hc i.1 (.string (nmF i)) (by simp [strs, HndF.out i, HnmF.out i])
      exact (Upd.below Hb4.out (fun _ => False)).cell this id)
    (fun i => by
      obtain ⟨g, off, rfl, _, hc⟩ := Hsk.out.open_ (by simp [ptrs]; have := i.2; have := Hm.out; omega)
      refine ⟨g, off, rfl, hsub g (hFk g rfl (hkn (by have := i.2; omega))), ?_⟩
      have := hc i.1 (.pointer (some ⟨ptF i, 0, none⟩)) (by simp [ptrs, HptF.out i])
      exact (Upd.below Hb4.out (fun _ => False)).cell this id)
  have Hseq := Lib.hid hseq
  clear tro hseq
  refine (wpIn_wide (n := 3)).1 (wpIn_rangeFunc_ownG rfl (by omega) (gf := 78) (lb := #[.pointer (some ⟨Bt, 0, none⟩)]) rfl trivial (enters_of Try.func78 (by kernel_rfl) rfl) Hseq.out (fun h k => h.trans k)
    (fun W l o o' hl _ _ _ => Upd.grown (Upd.refl _ W) (grownBy_putObj' W l o') (fun k hk _ => by cases hk; exact .inr hl)) (Below.refl _ _) (fun _ => rfl)
    (fun pre W => ∃ (a3 : Option Addr) (c3 : Nat) (al : List (Option Addr × Nat)), NodeSt w4 W B d nm n.v n.m pre.length a3 c3 (pre.map ndF) al) (fun _ _ _ => False)
    (fun s W W' row hs hg hr => by
      obtain ⟨a3, c3, al, hs⟩ := hs
      exact ⟨a3, c3, al, hs.turn hg hr⟩) (fun _ _ _ _ _ hs _ _ => hs) ?start (fun x => { tmps := #[.pointer (some ⟨p, 0, none⟩), .string nm, undef, undef, .pointer (some ⟨R, 0, none⟩), .pointer (some ⟨B, 0, none⟩), .string (nmF x), .pointer (some ⟨ptF x, 0, none⟩), .string nm, .pointer (some ⟨p, 0, none⟩), .pointer (some ⟨p, 0, none⟩), .pointer (some ⟨p, 0, none⟩), .agg n.v.cells.toArray, .pointer (some ⟨p, 0, none⟩), .pointer (some ⟨p, 0, none⟩), .pointer (some ⟨p, 35, none⟩), .agg (mcells n.m).toArray, .agg C, .pointer (some ⟨p, 0, none⟩), .func (.func 78) #[] #[.pointer (some ⟨Bt, 0, none⟩)], .string (nmF x), .pointer (some ⟨ptF x, 0, none⟩), undef, undef, undef, undef, undef, undef, undef, undef, undef, undef, undef], defers := [] }) ?assign ?body ?done ?stop)
  case start => exact ⟨none, 0, [], HB4.out, ⟨Own.nil _ _ _, ⟨rfl, fun i k a c h => by simp at h⟩, fun b hb => by simp [Value.ownBlock] at hb⟩, Upd.refl _ _⟩
  case assign =>
    intro l x W K hK
    gi_wp2
    exact hK
  case body =>
    rintro l pre x W ⟨a3, c3, al, hst⟩ hlen
    obtain ⟨k, hk⟩ : ∃ k, k = pre.length := ⟨_, rfl⟩
    obtain ⟨ks, hks⟩ : ∃ ks, ks = pre.map ndF := ⟨_, rfl⟩
    obtain ⟨xn, hxn⟩ : ∃ xn, xn = ndF x := ⟨_, rfl⟩
    obtain ⟨q, hq⟩ : ∃ q, q = ptF x := ⟨_, rfl⟩
    obtain ⟨s, hs⟩ : ∃ s, s = nmF x := ⟨_, rfl⟩
    have hkm : k ≤ 1000000 := by omega
    rw [← hk, ← hks] at hst
    rw [← hq, ← hs]
    have Hst := Lib.hid hst
    have Htq := Lib.hid (show TreeAt W F d q xn by rw [hq, hxn]; exact Hkid.out x W hst.upd)
    have Hss := Lib.hid (show s = xn.name by rw [hs, hxn]; exact HnmF.out x)
    have Hxz := Lib.hid (show xn.name.size ≤ 9223372036854775807 ∧ xn.parts ≤ 1000000 by rw [hxn]; exact Hsz2.out x)
    have Hend := Lib.hid (show (pre ++ [x]).length = k + 1 ∧ (pre ++ [x]).map ndF = ks ++ [xn] by rw [hk, hks, hxn]; simp)
    have hWn : ∀ b, F b → b < W.heap.size := fun b hb => Nat.lt_of_lt_of_le (hF b hb) (Nat.le_trans Hb4.out.size hst.upd.size)
    have Hcall := Lib.hid (show ∀ wc, Below W.heap.size W wc → Calls Try.prog 95 #[.pointer (some ⟨q, 0, none⟩), .string s] wc fun e w5 => ∃ (ax : Option Addr) (cx : Nat), e = .returned (.agg (xn.row ax cx).toArray) ∧ NodeIn w5 (fun b => wc.heap.size ≤ b) d xn ax ∧ Below wc.heap.size wc w5 from fun wc hb => by
      have := Ih.out F wc q xn s (Htq.out.below hb) (fun b h => Nat.lt_of_lt_of_le (hWn b h) hb.size) Hxz.out.2 (by rw [Hss.out]; exact Hxz.out.1)
      rw [Hss.out, show xn.named xn.name = xn by cases xn; rfl] at this
      rw [Hss.out]
      exact this)
    have HL := Lib.hid (show ∀ wc, Below W.heap.size W wc → wc.cell? ⟨B, 40, none⟩ = some (.slice a3 k c3) from fun wc hb => by
      have := (nrow_at (o := 0) hv (rangeAt_row ((hb.block B (lt_heap hst.row)).trans hst.row))).2.2.2
      simpa using this)
    have Hw0 := Lib.hid (show Below W.heap.size W W.drew from on_drew (Below.refl _ _))
    clear hst hk hks hxn hq hs hWn
    gi_wp2
    refine region_inRound (S := fun _ => True) (by kernel_rfl) (noDefer (by kernel_rfl)) (by rintro ⟨a, w, h⟩; exact h) ?_
    generalize W.drew = w0 at Hw0 ⊢
    refine wpAnyH_take (i := 0) (v := ?_) rfl (by kernel_rfl) (by kernel_rfl) (by kernel_rfl) (fun _ _ _ h => h) (Or.inl ⟨by rfl, ?_⟩) trivial ?_
    rotate_left
    · intro w hSw; go_simp; (try with_reducible rfl)
    (try simp only [List.getElem_toArray, List.getElem_cons_succ, List.getElem_cons_zero, Act.put, List.setIfInBounds_toArray, List.set_cons_zero, List.set_cons_succ])
    refine wpAnyH_take (i := 2) (v := ?_) rfl (by kernel_rfl) (by kernel_rfl) (by kernel_rfl) (fun _ _ _ h => h) (Or.inl ⟨by rfl, ?_⟩) trivial ?_
    rotate_left
    · intro w hSw; go_simp; (try with_reducible rfl)
    (try simp only [List.getElem_toArray, List.getElem_cons_succ, List.getElem_cons_zero, Act.put, List.setIfInBounds_toArray, List.set_cons_zero, List.set_cons_succ])
    refine wpAnyH_take (i := 3) (v := ?_) rfl (by kernel_rfl) (by kernel_rfl) (by kernel_rfl) (fun _ _ _ h => h) (Or.inl ⟨by rfl, ?_⟩) trivial ?_
    rotate_left
    · intro w hSw; go_simp; (try with_reducible rfl)
    (try simp only [List.getElem_toArray, List.getElem_cons_succ, List.getElem_cons_zero, Act.put, List.setIfInBounds_toArray, List.set_cons_zero, List.set_cons_succ])
    refine with_tail 5 #[true, true, true, true, true, true, true, false, false, false, false, false] (fun a' w6 => ∃ (ax : Option Addr) (cx gb : Nat), a' = { tmps := #[.pointer (some ⟨p, 0, none⟩), .string nm, undef, undef, .pointer (some ⟨R, 0, none⟩), .pointer (some ⟨B, 0, none⟩), .string (s), .pointer (some ⟨q, 0, none⟩), .string nm, .pointer (some ⟨p, 0, none⟩), .pointer (some ⟨p, 0, none⟩), .pointer (some ⟨p, 0, none⟩), .agg n.v.cells.toArray, .pointer (some ⟨p, 0, none⟩), .pointer (some ⟨p, 0, none⟩), .pointer (some ⟨p, 35, none⟩), .agg (mcells n.m).toArray, .agg C, .pointer (some ⟨p, 0, none⟩), .func (.func 78) #[] #[.pointer (some ⟨Bt, 0, none⟩)], .string (s), .pointer (some ⟨q, 0, none⟩), .pointer (some ⟨B, 40, none⟩), .slice a3 k c3, .pointer (some ⟨q, 0, none⟩), .string s, .agg (xn.row ax cx).toArray, .int .i64 (k : Nat), .slice (some ⟨gb, 0, none⟩) 1 1, undef, undef, undef, undef], defers := [] } ∧ Below W.heap.size W w6 ∧ NodeIn w6 (fun b => W.heap.size ≤ b ∧ gb ≠ b) d xn ax ∧ Sl w6 41 (.slice (some ⟨gb, 0, none⟩) 1 1) 1 zrow) ?tail (fun htail => ?_)
    case tail =>
      rintro a' w6 ⟨ax, cx, gb, rfl, hb6, hx6, hsl⟩
      have H6 := Lib.hid hb6
      have Hx6 := Lib.hid hx6
      have hown6 := (Hst.out.st.out.below_ hb6)
      have Hxl := Lib.hid (row_len (a := ax) (c := cx) hx6.vwf)
      have Hxs := Lib.hid (show (xn.row ax cx).toArray.size = 41 by rw [List.size_toArray]; exact row_len hx6.vwf)
      clear hb6 hx6
      refine wpAnyH_ready (rs := [7]) (by kernel_rfl) (by simp) ?_
      refine AllReadyH.cons rfl (fun K hK => ?_) ?_
      rotate_left
      · exact AllReadyH.nil
      refine step_append_any rfl (.tmp 23) (.tmp 28) 28 rfl 30 i0 _ 41 128 Try.underlying28 hi hz0 hz1 hz2 rfl (by decide) (.slice a3 k c3) k (rowsOf ks al) (.slice (some ⟨gb, 0, none⟩) 1 1) 1 zrow rfl rfl hown6 hsl zrow_one (by omega) (by omega) ?_
      intro a7 c7 w7 hown7 hgr7 hb7
      refine hK.out _ _ trivial (fun _ => ?_)
      clear hK K
      (try simp only [List.getElem_toArray, List.getElem_cons_succ, List.getElem_cons_zero, Act.put, List.setIfInBounds_toArray, List.set_cons_zero, List.set_cons_succ])
      obtain ⟨g, off, rfl, _, _⟩ := hown7.sl.open_ (by have := hown7.1; omega)
      obtain ⟨q1, q2, q3, q4, q5⟩ := node_fin Hst.out hBn hv H6.out Hx6.out (Z := zrow) zrow_len hown7 hgr7 (fun h => by
        have := hb7 g (by rw [own_ob]; exact h) rfl
        exact this)
      have Q1 := Lib.hid q1
      have Q3 := Lib.hid q3
      have Q5 := Lib.hid q5
      have f40 := cell_of_row w7 B 40 _ _ _ q2
      have z40 := frozen_of_row w7 B 40 _ _ q2
      have hg40 : (nrow nm n.v n.m (.slice a3 k c3)).toArray[40]? = some (.slice a3 k c3) := by
        have := (nrow_at (o := 0) hv (rangeAt_row q2)).2.2.2
        rw [f40] at this
        exact this
      rw [hg40] at f40
      have g40 := cell_of_row (w7.setCells g (off + k * 41) (xn.row ax cx)) B 40 _ _ _ q4
      rw [hg40] at g40
      have y40 := frozen_of_row (w7.setCells g (off + k * 41) (xn.row ax cx)) B 40 _ _ q4
      have j1 : (0 : Int) ≤ (k : Int) := by omega
      have j2 : (k : Int) < ((k : Int) + 1) := by omega
      have j3 : (k : Int) < ((k + 1 : Nat) : Int) := by omega
      have j4 : k < k + 1 := by omega
      clear q1 q2 q3 q4 q5 hg40 hown7 hgr7 hb7 hown6 hsl
      refine wpAnyH_take (i := 8) (v := ?_) rfl (by kernel_rfl) (by kernel_rfl) (by kernel_rfl) (fun _ _ _ h => h) (Or.inl ⟨by rfl, ?_⟩) trivial ?_
      rotate_left
      · intro w hSw; go_simp; (try with_reducible rfl)
      (try simp only [List.getElem_toArray, List.getElem_cons_succ, List.getElem_cons_zero, Act.put, List.setIfInBounds_toArray, List.set_cons_zero, List.set_cons_succ])
      refine wpAnyH_take (i := 10) (v := ?_) rfl (by kernel_rfl) (by kernel_rfl) (by kernel_rfl) (fun _ _ _ h => h) (Or.inl ⟨by rfl, ?_⟩) trivial ?_
      rotate_left
      · intro w hSw; go_simp; (try with_reducible rfl)
      (try simp only [List.getElem_toArray, List.getElem_cons_succ, List.getElem_cons_zero, Act.put, List.setIfInBounds_toArray, List.set_cons_zero, List.set_cons_succ])
      refine wpAnyH_ready (rs := [9, 11]) (by kernel_rfl) (by simp) ?_
      refine AllReadyH.cons rfl (fun K hK => ?_) ?_
      · refine step_wp rfl (wp_store_mid 30 (.tmp 30) (.tmp 26) rfl g (off + k * 41) (xn.row ax cx).toArray rfl rfl (by rw [Hxs.out]; exact Q1.out) (by rw [Hxs.out]; kernel_rfl) (all_one (nrow_one _ _ _ _ _ _)) ?_)
        refine hK.out _ _ trivial (fun _ => ?_)
        clear hK K
        (try simp only [List.getElem_toArray, List.getElem_cons_succ, List.getElem_cons_zero, Act.put, List.setIfInBounds_toArray, List.set_cons_zero, List.set_cons_succ])
        generalize hw8 : w7.setCells g (off + k * 41) (xn.row ax cx) = w8 at g40 y40 ⊢
        refine wpAnyH_ready (rs := [11]) (by kernel_rfl) (by simp) ?_
        refine AllReadyH.cons rfl (fun K hK => ?_) ?_
        rotate_left
        · exact AllReadyH.nil
        clear f40 z40
        go_simp
        refine hK.out _ _ trivial (fun _ => ?_)
        clear hK K
        (try simp only [List.getElem_toArray, List.getElem_cons_succ, List.getElem_cons_zero, Act.put, List.setIfInBounds_toArray, List.set_cons_zero, List.set_cons_succ])
        refine wpAnyH_done (by kernel_rfl) ?_ _
        obtain ⟨h1, h2⟩ := Q5.out _ (.inl rfl)
        rw [hw8] at h1 h2
        have hk1 : Upd (fun b => b = B ∨ w4.heap.size ≤ b) W _ := h1.mono (fun b _ hb => by
          rcases hb with hb | hb
          · exact .inl hb
          · exact .inr (Hst.out.st.n3 b (by rw [own_ob]; exact hb)))
        refine ⟨Hst.out.keeps h1 _, hk1, some ⟨g, off, none⟩, c7, al ++ [(ax, cx)], ?_⟩
        rw [Hend.out.1, Hend.out.2]
        exact h2
      refine AllReadyH.cons rfl (fun K hK => ?_) ?_
      · clear g40 y40
        go_simp
        refine hK.out _ _ trivial (fun _ => ?_)
        clear hK K
        (try simp only [List.getElem_toArray, List.getElem_cons_succ, List.getElem_cons_zero, Act.put, List.setIfInBounds_toArray, List.set_cons_zero, List.set_cons_succ])
        generalize hw8 : w7.setCell ⟨B, 40, none⟩ (.slice (some ⟨g, off, none⟩) (k + 1) c7) = w8 at Q3 ⊢
        refine wpAnyH_ready (rs := [9]) (by kernel_rfl) (by simp) ?_
        refine AllReadyH.cons rfl (fun K hK => ?_) ?_
        rotate_left
        · exact AllReadyH.nil
        refine step_wp rfl (wp_store_mid 30 (.tmp 30) (.tmp 26) rfl g (off + k * 41) (xn.row ax cx).toArray rfl rfl (by rw [Hxs.out]; exact Q3.out) (by rw [Hxs.out]; kernel_rfl) (all_one (nrow_one _ _ _ _ _ _)) ?_)
        refine hK.out _ _ trivial (fun _ => ?_)
        clear hK K
        (try simp only [List.getElem_toArray, List.getElem_cons_succ, List.getElem_cons_zero, Act.put, List.setIfInBounds_toArray, List.set_cons_zero, List.set_cons_succ])
        refine wpAnyH_done (by kernel_rfl) ?_ _
        obtain ⟨h1, h2⟩ := Q5.out _ (.inr rfl)
        rw [hw8] at h1 h2
        have hk1 : Upd (fun b => b = B ∨ w4.heap.size ≤ b) W _ := h1.mono (fun b _ hb => by
          rcases hb with hb | hb
          · exact .inl hb
          · exact .inr (Hst.out.st.n3 b (by rw [own_ob]; exact hb)))
        refine ⟨Hst.out.keeps h1 _, hk1, some ⟨g, off, none⟩, c7, al ++ [(ax, cx)], ?_⟩
        rw [Hend.out.1, Hend.out.2]
        exact h2
      exact AllReadyH.nil
    refine wpAnyH_ready (rs := [1, 4, 6]) (by kernel_rfl) (by simp) ?_
    refine AllReadyH.cons rfl (fun K hK => ?_) ?_
    · have c40 := HL.out w0 Hw0.out
      go_simp
      refine hK.out _ _ trivial (fun _ => ?_)
      clear hK K c40
      (try simp only [List.getElem_toArray, List.getElem_cons_succ, List.getElem_cons_zero, Act.put, List.setIfInBounds_toArray, List.set_cons_zero, List.set_cons_succ])
      refine wpAnyH_take (i := 5) (v := ?_) rfl (by kernel_rfl) (by kernel_rfl) (by kernel_rfl) (fun _ _ _ h => h) (Or.inl ⟨by rfl, ?_⟩) trivial ?_
      rotate_left
      · intro w hSw; go_simp; (try with_reducible rfl)
      (try simp only [List.getElem_toArray, List.getElem_cons_succ, List.getElem_cons_zero, Act.put, List.setIfInBounds_toArray, List.set_cons_zero, List.set_cons_succ])
      refine wpAnyH_ready (rs := [4, 6]) (by kernel_rfl) (by simp) ?_
      refine AllReadyH.cons rfl (fun K hK => ?_) ?_
      · go_simp
        go_at_call 95
        refine (Hcall.out w0 Hw0.out).mono ?_
        rintro e wz3 ⟨ax, cx, rfl, hxn, hbn⟩
        have Hxn := Lib.hid hxn
        have Hc := Lib.hid hbn
        have Hwz3 := Lib.hid (below_on Hw0.out hbn)
        clear hxn hbn
        (try go_wp2_with fail)
        refine hK.out _ _ trivial (fun _ => ?_)
        clear hK K
        (try simp only [List.getElem_toArray, List.getElem_cons_succ, List.getElem_cons_zero, Act.put, List.setIfInBounds_toArray, List.set_cons_zero, List.set_cons_succ])
        refine wpAnyH_ready (rs := [6]) (by kernel_rfl) (by simp) ?_
        refine AllReadyH.cons rfl (fun K hK => ?_) ?_
        · obtain ⟨wz5, hrun, hbb, hsl, hsz⟩ := zero_slice wz3
          have Hsl := Lib.hid hsl
          have Hbb := Lib.hid hbb
          have Hwz5 := Lib.hid (below_on Hwz3.out hbb)
          refine step_wp rfl (wp_buildSlice_eq 28 1 _ rfl #[(0, .agg zrow.toArray)] (by kernel_rfl) _ hrun ?_)
          clear hrun hsl hbb
          refine hK.out _ _ trivial (fun _ => ?_)
          clear hK K
          (try simp only [List.getElem_toArray, List.getElem_cons_succ, List.getElem_cons_zero, Act.put, List.setIfInBounds_toArray, List.set_cons_zero, List.set_cons_succ])
          refine at_tail rfl (by kernel_rfl) (htail.out _ _ ⟨ax, cx, _, rfl, Hwz5.out, (Hxn.out.mono (fun b hb hl => ⟨Nat.le_trans Hw0.out.size hb, fun e => ?_⟩)).below Hbb.out, Hsl.out⟩)
          rw [← e] at hl
          exact absurd hl (Nat.lt_irrefl _)
        exact AllReadyH.nil
      refine AllReadyH.cons rfl (fun K hK => ?_) ?_
      · obtain ⟨wz7, hrun, hbb, hsl, hsz⟩ := zero_slice w0
        have Hsl := Lib.hid hsl
        have Hbb := Lib.hid hbb
        have Hwz7 := Lib.hid (below_on Hw0.out hbb)
        refine step_wp rfl (wp_buildSlice_eq 28 1 _ rfl #[(0, .agg zrow.toArray)] (by kernel_rfl) _ hrun ?_)
        clear hrun hsl hbb
        refine hK.out _ _ trivial (fun _ => ?_)
        clear hK K
        (try simp only [List.getElem_toArray, List.getElem_cons_succ, List.getElem_cons_zero, Act.put, List.setIfInBounds_toArray, List.set_cons_zero, List.set_cons_succ])
        refine wpAnyH_ready (rs := [4]) (by kernel_rfl) (by simp) ?_
        refine AllReadyH.cons rfl (fun K hK => ?_) ?_
        · go_simp
          go_at_call 95
          refine (Hcall.out wz7 Hwz7.out).mono ?_
          rintro e wz9 ⟨ax, cx, rfl, hxn, hbn⟩
          have Hxn := Lib.hid hxn
          have Hc := Lib.hid hbn
          have Hwz9 := Lib.hid (below_on Hwz7.out hbn)
          clear hxn hbn
          (try go_wp2_with fail)
          refine hK.out _ _ trivial (fun _ => ?_)
          clear hK K
          (try simp only [List.getElem_toArray, List.getElem_cons_succ, List.getElem_cons_zero, Act.put, List.setIfInBounds_toArray, List.set_cons_zero, List.set_cons_succ])
          refine at_tail rfl (by kernel_rfl) (htail.out _ _ ⟨ax, cx, _, rfl, Hwz9.out, Hxn.out.mono (fun b hb hl => ⟨Nat.le_trans Hwz7.out.size hb, fun e => ?_⟩), Hsl.out.below Hc.out⟩)
          rw [← e] at hb
          have h1 := hsz
          omega
        exact AllReadyH.nil
      exact AllReadyH.nil
    refine AllReadyH.cons rfl (fun K hK => ?_) ?_
    · go_simp
      go_at_call 95
      refine (Hcall.out w0 Hw0.out).mono ?_
      rintro e wz11 ⟨ax, cx, rfl, hxn, hbn⟩
      have Hxn := Lib.hid hxn
      have Hc := Lib.hid hbn
      have Hwz11 := Lib.hid (below_on Hw0.out hbn)
      clear hxn hbn
      (try go_wp2_with fail)
      refine hK.out _ _ trivial (fun _ => ?_)
      clear hK K
      (try simp only [List.getElem_toArray, List.getElem_cons_succ, List.getElem_cons_zero, Act.put, List.setIfInBounds_toArray, List.set_cons_zero, List.set_cons_succ])
      refine wpAnyH_ready (rs := [1, 6]) (by kernel_rfl) (by simp) ?_
      refine AllReadyH.cons rfl (fun K hK => ?_) ?_
      · have c40 := HL.out wz11 Hwz11.out
        go_simp
        refine hK.out _ _ trivial (fun _ => ?_)
        clear hK K c40
        (try simp only [List.getElem_toArray, List.getElem_cons_succ, List.getElem_cons_zero, Act.put, List.setIfInBounds_toArray, List.set_cons_zero, List.set_cons_succ])
        refine wpAnyH_take (i := 5) (v := ?_) rfl (by kernel_rfl) (by kernel_rfl) (by kernel_rfl) (fun _ _ _ h => h) (Or.inl ⟨by rfl, ?_⟩) trivial ?_
        rotate_left
        · intro w hSw; go_simp; (try with_reducible rfl)
        (try simp only [List.getElem_toArray, List.getElem_cons_succ, List.getElem_cons_zero, Act.put, List.setIfInBounds_toArray, List.set_cons_zero, List.set_cons_succ])
        refine wpAnyH_ready (rs := [6]) (by kernel_rfl) (by simp) ?_
        refine AllReadyH.cons rfl (fun K hK => ?_) ?_
        · obtain ⟨wz14, hrun, hbb, hsl, hsz⟩ := zero_slice wz11
          have Hsl := Lib.hid hsl
          have Hbb := Lib.hid hbb
          have Hwz14 := Lib.hid (below_on Hwz11.out hbb)
          refine step_wp rfl (wp_buildSlice_eq 28 1 _ rfl #[(0, .agg zrow.toArray)] (by kernel_rfl) _ hrun ?_)
          clear hrun hsl hbb
          refine hK.out _ _ trivial (fun _ => ?_)
          clear hK K
          (try simp only [List.getElem_toArray, List.getElem_cons_succ, List.getElem_cons_zero, Act.put, List.setIfInBounds_toArray, List.set_cons_zero, List.set_cons_succ])
          refine at_tail rfl (by kernel_rfl) (htail.out _ _ ⟨ax, cx, _, rfl, Hwz14.out, (Hxn.out.mono (fun b hb hl => ⟨Nat.le_trans Hw0.out.size hb, fun e => ?_⟩)).below Hbb.out, Hsl.out⟩)
          rw [← e] at hl
          exact absurd hl (Nat.lt_irrefl _)
        exact AllReadyH.nil
      refine AllReadyH.cons rfl (fun K hK => ?_) ?_
      · obtain ⟨wz16, hrun, hbb, hsl, hsz⟩ := zero_slice wz11
        have Hsl := Lib.hid hsl
        have Hbb := Lib.hid hbb
        have Hwz16 := Lib.hid (below_on Hwz11.out hbb)
        refine step_wp rfl (wp_buildSlice_eq 28 1 _ rfl #[(0, .agg zrow.toArray)] (by kernel_rfl) _ hrun ?_)
        clear hrun hsl hbb
        refine hK.out _ _ trivial (fun _ => ?_)
        clear hK K
        (try simp only [List.getElem_toArray, List.getElem_cons_succ, List.getElem_cons_zero, Act.put, List.setIfInBounds_toArray, List.set_cons_zero, List.set_cons_succ])
        refine wpAnyH_ready (rs := [1]) (by kernel_rfl) (by simp) ?_
        refine AllReadyH.cons rfl (fun K hK => ?_) ?_
        · have c40 := HL.out wz16 Hwz16.out
          go_simp
          refine hK.out _ _ trivial (fun _ => ?_)
          clear hK K c40
          (try simp only [List.getElem_toArray, List.getElem_cons_succ, List.getElem_cons_zero, Act.put, List.setIfInBounds_toArray, List.set_cons_zero, List.set_cons_succ])
          refine wpAnyH_take (i := 5) (v := ?_) rfl (by kernel_rfl) (by kernel_rfl) (by kernel_rfl) (fun _ _ _ h => h) (Or.inl ⟨by rfl, ?_⟩) trivial ?_
          rotate_left
          · intro w hSw; go_simp; (try with_reducible rfl)
          (try simp only [List.getElem_toArray, List.getElem_cons_succ, List.getElem_cons_zero, Act.put, List.setIfInBounds_toArray, List.set_cons_zero, List.set_cons_succ])
          refine at_tail rfl (by kernel_rfl) (htail.out _ _ ⟨ax, cx, _, rfl, Hwz16.out, (Hxn.out.mono (fun b hb hl => ⟨Nat.le_trans Hw0.out.size hb, fun e => ?_⟩)).below Hbb.out, Hsl.out⟩)
          rw [← e] at hl
          exact absurd hl (Nat.lt_irrefl _)
        exact AllReadyH.nil
      exact AllReadyH.nil
    refine AllReadyH.cons rfl (fun K hK => ?_) ?_
    · obtain ⟨wz19, hrun, hbb, hsl, hsz⟩ := zero_slice w0
      have Hsl := Lib.hid hsl
      have Hbb := Lib.hid hbb
      have Hwz19 := Lib.hid (below_on Hw0.out hbb)
      refine step_wp rfl (wp_buildSlice_eq 28 1 _ rfl #[(0, .agg zrow.toArray)] (by kernel_rfl) _ hrun ?_)
      clear hrun hsl hbb
      refine hK.out _ _ trivial (fun _ => ?_)
      clear hK K
      (try simp only [List.getElem_toArray, List.getElem_cons_succ, List.getElem_cons_zero, Act.put, List.setIfInBounds_toArray, List.set_cons_zero, List.set_cons_succ])
      refine wpAnyH_ready (rs := [1, 4]) (by kernel_rfl) (by simp) ?_
      refine AllReadyH.cons rfl (fun K hK => ?_) ?_
      · have c40 := HL.out wz19 Hwz19.out
        go_simp
        refine hK.out _ _ trivial (fun _ => ?_)
        clear hK K c40
        (try simp only [List.getElem_toArray, List.getElem_cons_succ, List.getElem_cons_zero, Act.put, List.setIfInBounds_toArray, List.set_cons_zero, List.set_cons_succ])
        refine wpAnyH_take (i := 5) (v := ?_) rfl (by kernel_rfl) (by kernel_rfl) (by kernel_rfl) (fun _ _ _ h => h) (Or.inl ⟨by rfl, ?_⟩) trivial ?_
        rotate_left
        · intro w hSw; go_simp; (try with_reducible rfl)
        (try simp only [List.getElem_toArray, List.getElem_cons_succ, List.getElem_cons_zero, Act.put, List.setIfInBounds_toArray, List.set_cons_zero, List.set_cons_succ])
        refine wpAnyH_ready (rs := [4]) (by kernel_rfl) (by simp) ?_
        refine AllReadyH.cons rfl (fun K hK => ?_) ?_
        · go_simp
          go_at_call 95
          refine (Hcall.out wz19 Hwz19.out).mono ?_
          rintro e wz22 ⟨ax, cx, rfl, hxn, hbn⟩
          have Hxn := Lib.hid hxn
          have Hc := Lib.hid hbn
          have Hwz22 := Lib.hid (below_on Hwz19.out hbn)
          clear hxn hbn
          (try go_wp2_with fail)
          refine hK.out _ _ trivial (fun _ => ?_)
          clear hK K
          (try simp only [List.getElem_toArray, List.getElem_cons_succ, List.getElem_cons_zero, Act.put, List.setIfInBounds_toArray, List.set_cons_zero, List.set_cons_succ])
          refine at_tail rfl (by kernel_rfl) (htail.out _ _ ⟨ax, cx, _, rfl, Hwz22.out, Hxn.out.mono (fun b hb hl => ⟨Nat.le_trans Hwz19.out.size hb, fun e => ?_⟩), Hsl.out.below Hc.out⟩)
          rw [← e] at hb
          have h1 := hsz
          omega
        exact AllReadyH.nil
      refine AllReadyH.cons rfl (fun K hK => ?_) ?_
      · go_simp
        go_at_call 95
        refine (Hcall.out wz19 Hwz19.out).mono ?_
        rintro e wz24 ⟨ax, cx, rfl, hxn, hbn⟩
        have Hxn := Lib.hid hxn
        have Hc := Lib.hid hbn
        have Hwz24 := Lib.hid (below_on Hwz19.out hbn)
        clear hxn hbn
        (try go_wp2_with fail)
        refine hK.out _ _ trivial (fun _ => ?_)
        clear hK K
        (try simp only [List.getElem_toArray, List.getElem_cons_succ, List.getElem_cons_zero, Act.put, List.setIfInBounds_toArray, List.set_cons_zero, List.set_cons_succ])
        refine wpAnyH_ready (rs := [1]) (by kernel_rfl) (by simp) ?_
        refine AllReadyH.cons rfl (fun K hK => ?_) ?_
        · have c40 := HL.out wz24 Hwz24.out
          go_simp
          refine hK.out _ _ trivial (fun _ => ?_)
          clear hK K c40
          (try simp only [List.getElem_toArray, List.getElem_cons_succ, List.getElem_cons_zero, Act.put, List.setIfInBounds_toArray, List.set_cons_zero, List.set_cons_succ])
          refine wpAnyH_take (i := 5) (v := ?_) rfl (by kernel_rfl) (by kernel_rfl) (by kernel_rfl) (fun _ _ _ h => h) (Or.inl ⟨by rfl, ?_⟩) trivial ?_
          rotate_left
          · intro w hSw; go_simp; (try with_reducible rfl)
          (try simp only [List.getElem_toArray, List.getElem_cons_succ, List.getElem_cons_zero, Act.put, List.setIfInBounds_toArray, List.set_cons_zero, List.set_cons_succ])
          refine at_tail rfl (by kernel_rfl) (htail.out _ _ ⟨ax, cx, _, rfl, Hwz24.out, Hxn.out.mono (fun b hb hl => ⟨Nat.le_trans Hwz19.out.size hb, fun e => ?_⟩), Hsl.out.below Hc.out⟩)
          rw [← e] at hb
          have h1 := hsz
          omega
        exact AllReadyH.nil
      exact AllReadyH.nil
    exact AllReadyH.nil
  case done =>
    rintro D xs W hD rfl ⟨a3, c3, al, hst⟩ hK
    rw [HndA.out, List.length_finRange] at hst
    have hst' : NodeSt w4 W B d nm n.v n.m n.kids.length a3 c3 n.kids al := by have := hst; rw [Hm.out] at this; exact this
    have Hst := Lib.hid hst'
    have HKd := Lib.hid hK
    have HrR := Lib.hid (hst'.upd.at_ HR4.out (fun e => by omega))
    have hrB := rangeAt_row hst'.row
    have HrB := Lib.hid (show W.rangeAt B 0 ((n.named nm).row a3 c3) from hrB)
    have H41 := Lib.hid (show ((n.named nm).row a3 c3).length = 41 from nrow_length hv)
    have H41s := Lib.hid (show ((n.named nm).row a3 c3).toArray.size = 41 by rw [List.size_toArray]; exact nrow_length hv)
    clear hst hst' hK hrB
    go_wp2_with (first | (refine wpList_load_midg (by rfl) 30 (.tmp 5) rfl B 0 rfl ((n.named nm).row a3 c3) _ HrB.out Try.underlying30 rfl (by rw [H41.out]; kernel_rfl) ?_) | (refine wpList_store_row rfl 30 (.tmp 4) (.tmp 32) rfl R ((n.named nm).row a3 c3).toArray rfl rfl 30 Z HrR.out (by rw [H41s.out]; kernel_rfl) (by rw [H41s.out, HZ.out]) (all_one (nrow_one _ _ _ _ _ _)) ?_))
    have hDR : D ≠ R := by omega
    have hset := setRow_heap W R Z ((n.named nm).row a3 c3).toArray 30 (0, 0) HrR.out
    have hbW : Below w.heap.size w (W.setRow R ((n.named nm).row a3 c3).toArray) := below_setRow (Hb4.out.upd (Nat.le_refl _) Hst.out.upd (fun b hb => by have := Hb4.out.size; rcases hb with rfl | hb <;> omega)) hRw _
    have hkW : KidsIn (W.setRow R ((n.named nm).row a3 c3).toArray) (fun b => w.heap.size ≤ b) (d + 1) a3 n.kids := CopySt.kids (d := d + 1) Hst.out.st Hb4.out.size (Upd.setRow (Upd.refl _ W) R _ (by omega)) (fun e => by omega)
    have hKs : (W.setRow R ((n.named nm).row a3 c3).toArray).heap[D]? = some (.deferred (some [])) := by rw [setRow_other W R D _ hDR]; exact HKd.out
    generalize W.setRow R ((n.named nm).row a3 c3).toArray = W5 at hset hbW hkW hKs ⊢
    refine ⟨by simp, .inl ⟨_, _, rfl, run_takeDeferred hKs, ?_⟩⟩
    refine ⟨_, results_cell_row (P := Try.prog) Try.results95 _ _ R 30 ((n.named nm).row a3 c3).toArray (0, 0) _ rfl ((World.putObj_heap_other (fun e => hDR e.symm)).trans hset) Try.underlying30 rfl (by rw [H41s.out]; kernel_rfl), a3, ⟨c3, rfl⟩, ⟨hv, hmw, hnm, ?_, ?_⟩, ?_⟩
    · show n.kids.length ≤ _
      have := Hm.out
      omega
    · exact KidsIn.turn (grownBy_putObj' W5 D _) (fun r e => by cases e; exact ⟨_, hKs, rfl⟩) hkW
    · exact hbW.upd (Nat.le_refl _) (Upd.grown (Upd.refl (fun b => w.heap.size ≤ b) W5) (grownBy_putObj' W5 D _) (fun k hk _ => by cases hk; have := Hb4.out.size; omega)) (fun b hb => hb)
  case stop =>
    rintro D c pre W _ _ h _
    exact h.elim
theorem node_ok : ∀ d : Nat, NodeOk d
  | 0 => fun F w p n nm h => h.elim
  | d + 1 => node_step d (node_ok d)
end Go.Proofs.Ythnbinlllmkabaa
