/- The contract of the law's `known`: the sums that the standards name. -/
import Derived.Test.YtefobboakikpbaaDoorMore
import Derived.Test.YtefobboakikpbaaDoorKnP
import Derived.Deep.RegionHeld3
namespace Go.Proofs.YtefobboakikpbaaDoor
open Go.RowKit
set_option linter.unusedVariables false
set_option linter.unusedSimpArgs false

theorem digest_nil : digest [] = sha [] := rfl
theorem digest_abc : digest [97, 98, 99] = sha (sha [97, 98, 99]) := by
  have h : shasTo [97, 98, 99] (0 + 1) = sha [97, 98, 99] := by
    rw [shasTo_succ]; simp [shasTo]
  exact congrArg sha h
/-- What is asked of a world within the last line. -/
def Kn (w : World) (C1 C2 : Array Value) (B D : Nat) (w' : World) : Prop :=
  Below w.heap.size w w' ∧ w'.heap[B]? = some (.cells C1 26 (0, 0)) ∧ w'.heap[D]? = some (.cells C2 26 (0, 0))
theorem Kn.below {w w' : World} {C1 C2 : Array Value} {B D : Nat} (h : Kn w C1 C2 B D w') : Below w.heap.size w w' := h.1
theorem Kn.next {w e wn : World} {C1 C2 : Array Value} {B D : Nat} (hb : Below e.heap.size e wn) (h : Kn w C1 C2 B D e) : Kn w C1 C2 B D wn :=
  ⟨h.1.trans (hb.mono h.1.size), (hb.block _ (lt_heap h.2.1)).trans h.2.1, (hb.block _ (lt_heap h.2.2)).trans h.2.2⟩
theorem Kn.alloc {w e : World} {C1 C2 : Array Value} {B D : Nat} (h : Kn w C1 C2 B D e) (o : Obj) : Kn w C1 C2 B D (e.alloc o) := h.next (on_alloc (Below.refl _ _) o)
theorem Kn.drew {w e : World} {C1 C2 : Array Value} {B D : Nat} (h : Kn w C1 C2 B D e) : Kn w C1 C2 B D e.drew := h.next (on_drew (Below.refl _ _))
theorem parts_one32 (w : World) (T : TypeId) (g : Nat) (x : List UInt8) (hx : x.length = 32) (h : Sl w 1 (.slice (some ⟨g, 0, none⟩) 32 32) 32 (bytes x)) : Parts (w.alloc (.cells #[.slice (some ⟨g, 0, none⟩) 32 32] T)) (.slice (some ⟨w.heap.size, 0, none⟩) 1 1) [x] := by
  have h2 := parts_one w T (some ⟨g, 0, none⟩) 32 x (by rw [hx]; exact h)
  rwa [hx] at h2
theorem parts_row {e : World} {T : TypeId} {g g2 : Nat} {x : List UInt8} (hx : x.length = 32) (h : e.heap[g2]? = some (.cells #[.slice (some ⟨g, 0, none⟩) 32 32] T (0, 0))) (hs : Sl e 1 (.slice (some ⟨g, 0, none⟩) 32 32) 32 (bytes x)) : Parts e (.slice (some ⟨g2, 0, none⟩) 1 1) [x] := by
  refine ⟨[.slice (some ⟨g, 0, none⟩) 32 32], ⟨_, 1, rfl, rfl, by simp, fun _ => ⟨_, rfl, fun j u hj => ?_⟩⟩, fun i hi => ?_⟩
  · rw [add_off, cell_of_row e g2 _ _ T (0, 0) h, ← hj]; simp
  · have h0 : i = 0 := by simpa using hi
    subst h0
    refine ⟨some ⟨g, 0, none⟩, 32, ?_, ?_⟩
    · show some _ = some (Value.slice _ x.length 32); rw [hx]
    · show Sl e 1 (.slice _ x.length 32) x.length (bytes x)
      rw [hx]; exact hs
theorem row2 (w : World) (A L : Obj) : ((w.alloc A).alloc L).heap[w.heap.size + 1]? = some L := by
  have := heap_alloc_new (w.alloc A) L
  rwa [World.size_alloc] at this
theorem row3 (w : World) (A L : Obj) : ((w.alloc L).alloc A).heap[w.heap.size]? = some L := by
  show ((w.heap.push L).push A)[w.heap.size]? = some L
  rw [Array.getElem?_push, if_neg (by simp), Array.getElem?_push, if_pos rfl]

set_option maxHeartbeats 4000000 in
set_option maxRecDepth 100000 in
theorem known_any (w : World) (hk : KeysAt w) (hbg : BeginAt w) (hf : FoursAt w) :
    Calls Tryd.prog 34 #[] w fun e w' => e = .returned (.bool true) ∧ Below w.heap.size w w' := by
  have Hk := Lib.hid hk
  have Hbg := Lib.hid hbg
  have Hf := Lib.hid hf
  clear hk hbg hf
  go_enter Tryd.func34, Tryd.ntmps34
  go_wp2_with fail
  refine (SHA_any w Hk.out Hbg.out none 0 [] (parts_none w _ _) (by decide) (by decide)).mono ?_
  rintro e w1 ⟨rfl, hb1⟩
  rw [show ([] : List (List UInt8)).flatten = [] from rfl]
  obtain ⟨C1, hC1⟩ : ∃ C, C = (bytes (sha [])).toArray := ⟨_, rfl⟩
  rw [← hC1]
  obtain ⟨hC1s, hC1o⟩ := sum_cells (sha []) rfl
  rw [← hC1] at hC1s hC1o
  have HC1 := Lib.hid hC1
  have HC1s := Lib.hid hC1s
  have HC1o := Lib.hid hC1o
  have Hb1 := Lib.hid hb1
  clear hC1 hC1s hC1o hb1
  have kc := fun (w : World) (C : Array Value) (n c : Nat) => Lib.run_convert_bytes_const (P := Tryd.prog) w 24 5 C n c Tryd.underlying24 Tryd.underlying5
  go_wp2_with (refine wpList_store_fresh rfl 26 _ _ rfl C1 rfl rfl (by rw [HC1s.out]; kernel_rfl) (by rw [HC1s.out]; rfl) HC1o.out ?_)
  intro w2 hs2 hr2 hb2
  have hbe2 : Below w.heap.size w w2 := Hb1.out.trans (hb2.mono Hb1.out.size)
  obtain ⟨B, hB⟩ : ∃ B, B = w1.heap.size := ⟨_, rfl⟩
  have hwB : w.heap.size ≤ B := by rw [hB]; exact Hb1.out.size
  rw [← hB] at hs2 hr2 ⊢
  have Hs2 := Lib.hid hs2
  have Hr2 := Lib.hid hr2
  have Hbe2 := Lib.hid hbe2
  clear hs2 hr2 hb2 hbe2 hB Hb1
  go_wp2_with fail
  have hsz2 : w.heap.size ≤ w2.heap.size := Hbe2.out.size
  have hwa : Below w2.heap.size w2 ((w2.alloc (.cells #[.int .u8 97, .int .u8 98, .int .u8 99] 5 (3, 4))).alloc (.cells #[.slice (some ⟨w2.heap.size, 0, none⟩) 3 3] 24)) := ((Below.refl _ _).alloc (Nat.le_refl _) _).alloc (by simp) _
  have hpo := parts_one (w2.alloc (.cells #[.int .u8 97, .int .u8 98, .int .u8 99] 5 (3, 4))) 24 (some ⟨w2.heap.size, 0, none⟩) 3 [97, 98, 99] (Sl.made w2 5 1 3 3 _ (3, 4) _ rfl rfl (by decide))
  rw [World.size_alloc] at hpo
  refine (SHA_any _ ((Hk.out.below Hbe2.out).below hwa) ((Hbg.out.below Hbe2.out).below hwa) _ 1 [[97, 98, 99]] hpo (by decide) (by decide)).mono ?_
  rintro e w3 ⟨rfl, hb3⟩
  rw [show ([[97, 98, 99]] : List (List UInt8)).flatten = [97, 98, 99] from rfl]
  obtain ⟨C2, hC2⟩ : ∃ C, C = (bytes (sha [97, 98, 99])).toArray := ⟨_, rfl⟩
  rw [← hC2]
  obtain ⟨hC2s, hC2o⟩ := sum_cells (sha [97, 98, 99]) rfl
  rw [← hC2] at hC2s hC2o
  have hb23 : Below w2.heap.size w2 w3 := hwa.trans (hb3.mono hwa.size)
  have hbe3 := Hbe2.out.trans (hb23.mono hsz2)
  have hr3 := (hb23.block _ (lt_heap Hr2.out)).trans Hr2.out
  have HC2 := Lib.hid hC2
  have HC2s := Lib.hid hC2s
  have HC2o := Lib.hid hC2o
  have Hbe3 := Lib.hid hbe3
  have Hr3 := Lib.hid hr3
  clear hC2 hC2s hC2o hb3 hwa hpo hb23 hbe3 hr3
  go_wp2_with (refine wpList_store_fresh rfl 26 _ _ rfl C2 rfl rfl (by rw [HC2s.out]; kernel_rfl) (by rw [HC2s.out]; rfl) HC2o.out ?_)
  intro w4 hs4 hr4 hb4
  have hbe4 : Below w.heap.size w w4 := Hbe3.out.trans (hb4.mono Hbe3.out.size)
  obtain ⟨D, hD⟩ : ∃ D, D = w3.heap.size := ⟨_, rfl⟩
  have hBD : B < D := by rw [hD]; exact lt_heap Hr3.out
  have hr5 := (hb4.block _ (lt_heap Hr3.out)).trans Hr3.out
  rw [← hD] at hs4 hr4 ⊢
  have Hs4 := Lib.hid hs4
  have Hr4 := Lib.hid hr4
  have Hr5 := Lib.hid hr5
  have Hbe4 := Lib.hid hbe4
  have n0 := cell_of_row w4 B 0 _ _ _ hr5
  have n1 := cell_of_row w4 B 1 _ _ _ hr5
  have n31 := cell_of_row w4 B 31 _ _ _ hr5
  have m0 := cell_of_row w4 D 0 _ _ _ hr4
  have m1 := cell_of_row w4 D 1 _ _ _ hr4
  have m30 := cell_of_row w4 D 30 _ _ _ hr4
  have m31 := cell_of_row w4 D 31 _ _ _ hr4
  obtain ⟨A, hA⟩ : ∃ A, A = sha [97, 98, 99] := ⟨_, rfl⟩
  obtain ⟨C3, hC3⟩ : ∃ C, C = (bytes (sha A)).toArray := ⟨_, rfl⟩
  have HA := Lib.hid hA
  have HAl : Hid (A.length = 32) := by show _ = _; rw [hA]; rfl
  have HC3 := Lib.hid hC3
  have HD1 : Hid ((bytes (digest [])).toArray = C1) := by show _ = _; rw [digest_nil, HC1.out]
  have HD3 : Hid ((bytes (digest [97, 98, 99])).toArray = C3) := by show _ = _; rw [digest_abc, hC3, hA]
  have HS3 : Hid ((bytes (sha [A].flatten)).toArray = C3) := by show _ = _; rw [hC3]; simp
  have HCA : Hid (C2 = (bytes A).toArray) := by show _ = _; rw [HC2.out, hA]
  clear hA hC3
  have q3 : ∀ w, (Op.equalIn 10000 26 (.agg C3) (.agg C3)).run Tryd.prog w = .ok true w := fun w => by rw [HC3.out]; exact eq_sum _ rfl w
  have hS0 : Kn w C1 C2 B D w4 := ⟨hbe4, hr5, hr4⟩
  have Sl32 : ∀ w', Kn w C1 C2 B D w' → Sl w' 1 (.slice (some ⟨D, 0, none⟩) 32 32) 32 (bytes A) := fun w' h => sl_row h.2.2 A (by rw [HCA.out]) 32 32 HAl.out (by decide)
  obtain ⟨L1, hL1⟩ : ∃ L, C1 = List.toArray L := ⟨bytes (sha []), HC1.out⟩
  subst hL1
  have hL1l : L1.length = 32 := by have := HC1s.out; simpa using this
  have und26 : Tryd.prog.underlying 26 = some (.array 32 5) := Tryd.underlying26
  have inf26 : (Tryd.prog.info? 26).map (·.size) = some L1.length := by rw [hL1l]; kernel_rfl
  have KS : ∀ w', Kn w L1.toArray C2 B D w' → Kn w L1.toArray C2 B D w' ∧ w'.rangeAt B 0 L1 := fun w' h => ⟨h, fun j v hj => by
    rw [Nat.zero_add, cell_of_row w' B j _ _ _ h.2.1]; simpa using hj⟩
  have HKS := Lib.hid KS
  have HSl32 := Lib.hid Sl32
  clear KS Sl32
  have kc3 : ∀ (w : World) (C : Array Value) (n c : Nat) (o : Obj), (convert 24 24 (.slice (some ⟨w.heap.size + 1, 0, none⟩) n c)).run Tryd.prog ((w.alloc o).alloc (.cells C 5)) = .ok (.slice (some ⟨w.heap.size + 1, 0, none⟩) n c) ((w.alloc o).alloc (.cells C 5 (C.size, C.size + 1))) := fun w C n c o => by
    have h := kc (w.alloc o) C n c
    rwa [World.size_alloc] at h
  have q1 : ∀ w, (Op.equalIn 10000 26 (.agg L1.toArray) (.agg L1.toArray)).run Tryd.prog w = .ok true w := fun w => by rw [HC1.out]; exact eq_sum _ rfl w
  have kc1 : ∀ (w : World) (C : Array Value) (n c : Nat), (convert 24 24 (.slice (some ⟨w.heap.size, 0, none⟩) n c)).run Tryd.prog (w.alloc (.cells C 5)).drew = .ok (.slice (some ⟨w.heap.size, 0, none⟩) n c) (w.alloc (.cells C 5 (C.size, C.size + 1))).drew := fun w C n c => kc w.drew C n c
  have kc2 := fun (w : World) (C : Array Value) (n c : Nat) (o : Obj) => convert_const_under (P := Tryd.prog) w 24 5 C n c o Tryd.underlying24 Tryd.underlying5
  rw [HC1.out, sha_nil] at n0 n1 n31
  rw [HC2.out, sha_abc] at m0 m1 m30 m31
  simp [bytes] at n0 n1 n31 m0 m1 m30 m31
  clear hs4 hr4 hr5 hb4 hbe4 hD Hbe3 Hr3 Hbe2 Hr2 Hbe4 Hr5 Hr4
  go_wp2_with fail
  clear n0 n1 n31 m0 m1 m30 m31
  have Hkn := Lib.hid hS0
  refine wp_region_noPanic ?_
  refine wp_region_held_drew (S := (fun w' => Kn w L1.toArray C2 B D w' ∧ w'.rangeAt B 0 L1)) (by kernel_rfl) ?_ (fun hHeld => ?_)
  · (try dsimp only); (first | assumption | exact HKS.out _ Hkn.out | exact HKS.out _ (Kn.drew Hkn.out) | exact HKS.out _ (Kn.alloc Hkn.out _) | exact HKS.out _ (Kn.drew (Kn.alloc Hkn.out _)) | exact HKS.out _ (Kn.alloc (Kn.alloc Hkn.out _) _))
  refine wpAnyH_ready (rs := [0]) (by kernel_rfl) (by simp) ?_
  refine AllReadyH.cons rfl (fun K hK => ?_) ?_
  rotate_left
  · exact AllReadyH.nil
  go_simp
  refine hK.out _ _ ?_ (fun hHeld => ?_)
  · (try dsimp only); (first | assumption | exact HKS.out _ Hkn.out | exact HKS.out _ (Kn.drew Hkn.out) | exact HKS.out _ (Kn.alloc Hkn.out _) | exact HKS.out _ (Kn.drew (Kn.alloc Hkn.out _)) | exact HKS.out _ (Kn.alloc (Kn.alloc Hkn.out _) _))
  clear hK K
  (try simp only [List.getElem_toArray, List.getElem_cons_succ, List.getElem_cons_zero, Act.put, List.setIfInBounds_toArray, List.set_cons_zero, List.set_cons_succ])
  refine wpAnyH_ready (rs := [1]) (by kernel_rfl) (by simp) ?_
  refine AllReadyH.cons rfl (fun K hK => ?_) ?_
  rotate_left
  · exact AllReadyH.nil
  go_simp
  refine hK.out _ _ ?_ (fun hHeld => ?_)
  · (try dsimp only); (first | assumption | exact HKS.out _ Hkn.out | exact HKS.out _ (Kn.drew Hkn.out) | exact HKS.out _ (Kn.alloc Hkn.out _) | exact HKS.out _ (Kn.drew (Kn.alloc Hkn.out _)) | exact HKS.out _ (Kn.alloc (Kn.alloc Hkn.out _) _))
  clear hK K
  (try simp only [List.getElem_toArray, List.getElem_cons_succ, List.getElem_cons_zero, Act.put, List.setIfInBounds_toArray, List.set_cons_zero, List.set_cons_succ])
  refine wpAnyH_ready (rs := [2]) (by kernel_rfl) (by simp) ?_
  refine AllReadyH.cons rfl (fun K hK => ?_) ?_
  rotate_left
  · exact AllReadyH.nil
  go_simp
  (go_at_call_of 31 (9 : Nat); go_split_ands; refine (crc_any _ ?_ _ _ [49, 50, 51, 52, 53, 54, 55, 56, 57] ?_).mono ?_; exact Hf.out.below (Kn.below (by assumption)); exact Sl.made _ 5 1 9 9 _ (9, 10) _ rfl rfl (by decide); rintro e wn ⟨rfl, hbn⟩; have Hke := Lib.hid (show Kn w L1.toArray C2 B D _ by assumption); have Hkn := Lib.hid (Kn.next hbn (by assumption)); rw [crc_nine])
  (try go_wp2_with fail)
  refine hK.out _ _ ?_ (fun hHeld => ?_)
  · (try dsimp only); (first | assumption | exact HKS.out _ Hkn.out | exact HKS.out _ (Kn.drew Hkn.out) | exact HKS.out _ (Kn.alloc Hkn.out _) | exact HKS.out _ (Kn.drew (Kn.alloc Hkn.out _)) | exact HKS.out _ (Kn.alloc (Kn.alloc Hkn.out _) _))
  clear hK K
  (try simp only [List.getElem_toArray, List.getElem_cons_succ, List.getElem_cons_zero, Act.put, List.setIfInBounds_toArray, List.set_cons_zero, List.set_cons_succ])
  refine wpAnyH_take (i := 3) (v := ?_) rfl (by kernel_rfl) (by kernel_rfl) (by kernel_rfl) (fun _ _ _ h => h) (Or.inl ⟨by rfl, ?_⟩) (by assumption) ?_
  rotate_left
  · intro w hSw; (try dsimp only at hSw); go_simp; (try with_reducible rfl)
  (try simp only [List.getElem_toArray, List.getElem_cons_succ, List.getElem_cons_zero, Act.put, List.setIfInBounds_toArray, List.set_cons_zero, List.set_cons_succ])
  refine wpAnyH_take (i := 4) (v := ?_) rfl (by kernel_rfl) (by kernel_rfl) (by kernel_rfl) (fun _ _ _ h => h) (Or.inl ⟨by rfl, ?_⟩) (by assumption) ?_
  rotate_left
  · intro w hSw; (try dsimp only at hSw); go_simp; (try with_reducible rfl)
  (try simp only [List.getElem_toArray, List.getElem_cons_succ, List.getElem_cons_zero, Act.put, List.setIfInBounds_toArray, List.set_cons_zero, List.set_cons_succ])
  refine wpAnyH_ready (rs := [5]) (by kernel_rfl) (by simp) ?_
  refine AllReadyH.cons rfl (fun K hK => ?_) ?_
  rotate_left
  · exact AllReadyH.nil
  go_simp
  refine hK.out _ _ ?_ (fun hHeld => ?_)
  · (try dsimp only); (first | assumption | exact HKS.out _ Hkn.out | exact HKS.out _ (Kn.drew Hkn.out) | exact HKS.out _ (Kn.alloc Hkn.out _) | exact HKS.out _ (Kn.drew (Kn.alloc Hkn.out _)) | exact HKS.out _ (Kn.alloc (Kn.alloc Hkn.out _) _))
  clear hK K
  (try simp only [List.getElem_toArray, List.getElem_cons_succ, List.getElem_cons_zero, Act.put, List.setIfInBounds_toArray, List.set_cons_zero, List.set_cons_succ])
  refine wpAnyH_ready (rs := [6]) (by kernel_rfl) (by simp) ?_
  refine AllReadyH.cons rfl (fun K hK => ?_) ?_
  rotate_left
  · exact AllReadyH.nil
  go_simp
  refine hK.out _ _ ?_ (fun hHeld => ?_)
  · (try dsimp only); (first | assumption | exact HKS.out _ Hkn.out | exact HKS.out _ (Kn.drew Hkn.out) | exact HKS.out _ (Kn.alloc Hkn.out _) | exact HKS.out _ (Kn.drew (Kn.alloc Hkn.out _)) | exact HKS.out _ (Kn.alloc (Kn.alloc Hkn.out _) _))
  clear hK K
  (try simp only [List.getElem_toArray, List.getElem_cons_succ, List.getElem_cons_zero, Act.put, List.setIfInBounds_toArray, List.set_cons_zero, List.set_cons_succ])
  refine wpAnyH_ready (rs := [7]) (by kernel_rfl) (by simp) ?_
  refine AllReadyH.cons rfl (fun K hK => ?_) ?_
  rotate_left
  · exact AllReadyH.nil
  go_simp
  (go_at_call 31; go_split_ands; refine (crc_any _ ?_ _ _ [97] ?_).mono ?_; exact Hf.out.below (Kn.below (by assumption)); exact Sl.made _ 5 1 1 1 _ (1, 2) _ rfl rfl (by decide); rintro e wn ⟨rfl, hbn⟩; have Hke := Lib.hid (show Kn w L1.toArray C2 B D _ by assumption); have Hkn := Lib.hid (Kn.next hbn (by assumption)); rw [crc_a])
  (try go_wp2_with fail)
  refine hK.out _ _ ?_ (fun hHeld => ?_)
  · (try dsimp only); (first | assumption | exact HKS.out _ Hkn.out | exact HKS.out _ (Kn.drew Hkn.out) | exact HKS.out _ (Kn.alloc Hkn.out _) | exact HKS.out _ (Kn.drew (Kn.alloc Hkn.out _)) | exact HKS.out _ (Kn.alloc (Kn.alloc Hkn.out _) _))
  clear hK K
  (try simp only [List.getElem_toArray, List.getElem_cons_succ, List.getElem_cons_zero, Act.put, List.setIfInBounds_toArray, List.set_cons_zero, List.set_cons_succ])
  refine wpAnyH_take (i := 8) (v := ?_) rfl (by kernel_rfl) (by kernel_rfl) (by kernel_rfl) (fun _ _ _ h => h) (Or.inl ⟨by rfl, ?_⟩) (by assumption) ?_
  rotate_left
  · intro w hSw; (try dsimp only at hSw); go_simp; (try with_reducible rfl)
  (try simp only [List.getElem_toArray, List.getElem_cons_succ, List.getElem_cons_zero, Act.put, List.setIfInBounds_toArray, List.set_cons_zero, List.set_cons_succ])
  refine wpAnyH_take (i := 9) (v := ?_) rfl (by kernel_rfl) (by kernel_rfl) (by kernel_rfl) (fun _ _ _ h => h) (Or.inl ⟨by rfl, ?_⟩) (by assumption) ?_
  rotate_left
  · intro w hSw; (try dsimp only at hSw); go_simp; (try with_reducible rfl)
  (try simp only [List.getElem_toArray, List.getElem_cons_succ, List.getElem_cons_zero, Act.put, List.setIfInBounds_toArray, List.set_cons_zero, List.set_cons_succ])
  refine wpAnyH_take (i := 10) (v := ?_) rfl (by kernel_rfl) (by kernel_rfl) (by kernel_rfl) (fun _ _ _ h => h) (Or.inl ⟨by rfl, ?_⟩) (by assumption) ?_
  rotate_left
  · intro w hSw; (try dsimp only at hSw); go_simp; (try with_reducible rfl)
  (try simp only [List.getElem_toArray, List.getElem_cons_succ, List.getElem_cons_zero, Act.put, List.setIfInBounds_toArray, List.set_cons_zero, List.set_cons_succ])
  refine wpAnyH_ready (rs := [11]) (by kernel_rfl) (by simp) ?_
  refine AllReadyH.cons rfl (fun K hK => ?_) ?_
  rotate_left
  · exact AllReadyH.nil
  go_simp
  (go_at_call_of 31 (none : Option Addr); go_split_ands; refine (crc_any _ ?_ _ _ [] ?_).mono ?_; exact Hf.out.below (Kn.below (by assumption)); exact ⟨none, 0, rfl, rfl, by decide, fun h => absurd rfl h⟩; rintro e wn ⟨rfl, hbn⟩; have Hke := Lib.hid (show Kn w L1.toArray C2 B D _ by assumption); have Hkn := Lib.hid (Kn.next hbn (by assumption)); rw [crc_nil])
  (try go_wp2_with fail)
  refine hK.out _ _ ?_ (fun hHeld => ?_)
  · (try dsimp only); (first | assumption | exact HKS.out _ Hkn.out | exact HKS.out _ (Kn.drew Hkn.out) | exact HKS.out _ (Kn.alloc Hkn.out _) | exact HKS.out _ (Kn.drew (Kn.alloc Hkn.out _)) | exact HKS.out _ (Kn.alloc (Kn.alloc Hkn.out _) _))
  clear hK K
  (try simp only [List.getElem_toArray, List.getElem_cons_succ, List.getElem_cons_zero, Act.put, List.setIfInBounds_toArray, List.set_cons_zero, List.set_cons_succ])
  refine wpAnyH_take (i := 12) (v := ?_) rfl (by kernel_rfl) (by kernel_rfl) (by kernel_rfl) (fun _ _ _ h => h) (Or.inl ⟨by rfl, ?_⟩) (by assumption) ?_
  rotate_left
  · intro w hSw; (try dsimp only at hSw); go_simp; (try with_reducible rfl)
  (try simp only [List.getElem_toArray, List.getElem_cons_succ, List.getElem_cons_zero, Act.put, List.setIfInBounds_toArray, List.set_cons_zero, List.set_cons_succ])
  refine wpAnyH_take (i := 13) (v := ?_) rfl (by kernel_rfl) (by kernel_rfl) (by kernel_rfl) (fun _ _ _ h => h) (Or.inl ⟨by rfl, ?_⟩) (by assumption) ?_
  rotate_left
  · intro w hSw; (try dsimp only at hSw); go_simp; (try with_reducible rfl)
  (try simp only [List.getElem_toArray, List.getElem_cons_succ, List.getElem_cons_zero, Act.put, List.setIfInBounds_toArray, List.set_cons_zero, List.set_cons_succ])
  refine wpAnyH_take (i := 14) (v := ?_) rfl (by kernel_rfl) (by kernel_rfl) (by kernel_rfl) (fun _ _ _ h => h) (Or.inl ⟨by rfl, ?_⟩) (by assumption) ?_
  rotate_left
  · intro w hSw; (try dsimp only at hSw); go_simp; (try with_reducible rfl)
  (try simp only [List.getElem_toArray, List.getElem_cons_succ, List.getElem_cons_zero, Act.put, List.setIfInBounds_toArray, List.set_cons_zero, List.set_cons_succ])
  refine' wpAnyH_take (i := 16) (v := _) rfl (by kernel_rfl) (by kernel_rfl) (by kernel_rfl) (fun _ _ _ h => h) (yieldsIf_load_mid (by rfl) _ _ rfl _ _ rfl _ _ ?hS ?hu ?hd ?hi) (by assumption) ?rest
  case hS => (intro w hSw; (try dsimp only at hSw); go_split_ands; assumption)
  case hu => assumption
  case hd => rfl
  case hi => first | assumption | (simp only [*]; done)
  (try simp only [List.getElem_toArray, List.getElem_cons_succ, List.getElem_cons_zero, Act.put, List.setIfInBounds_toArray, List.set_cons_zero, List.set_cons_succ])
  refine wpAnyH_ready (rs := [15]) (by kernel_rfl) (by simp) ?_
  refine AllReadyH.cons rfl (fun K hK => ?_) ?_
  rotate_left
  · exact AllReadyH.nil
  go_simp
  (go_at_call_of 29 (none : Option Addr); go_split_ands; refine (digest_any _ ?_ ?_ _ _ [] ?_ (by decide) (by decide)).mono ?_; exact Hk.out.below (Kn.below (by assumption)); exact Hbg.out.below (Kn.below (by assumption)); exact ⟨none, 0, rfl, rfl, by decide, fun h => absurd rfl h⟩; rintro e wn ⟨rfl, hbn⟩; have Hke := Lib.hid (show Kn w L1.toArray C2 B D _ by assumption); have Hkn := Lib.hid (Kn.next hbn (by assumption)); rw [HD1.out])
  (try go_wp2_with fail)
  refine hK.out _ _ ?_ (fun hHeld => ?_)
  · (try dsimp only); (first | assumption | exact HKS.out _ Hkn.out | exact HKS.out _ (Kn.drew Hkn.out) | exact HKS.out _ (Kn.alloc Hkn.out _) | exact HKS.out _ (Kn.drew (Kn.alloc Hkn.out _)) | exact HKS.out _ (Kn.alloc (Kn.alloc Hkn.out _) _))
  clear hK K
  (try simp only [List.getElem_toArray, List.getElem_cons_succ, List.getElem_cons_zero, Act.put, List.setIfInBounds_toArray, List.set_cons_zero, List.set_cons_succ])
  refine wpAnyH_take (i := 17) (v := ?_) rfl (by kernel_rfl) (by kernel_rfl) (by kernel_rfl) (fun _ _ _ h => h) (Or.inl ⟨by rfl, ?_⟩) (by assumption) ?_
  rotate_left
  · intro w hSw; (try dsimp only at hSw); go_simp; (try with_reducible rfl)
  (try simp only [List.getElem_toArray, List.getElem_cons_succ, List.getElem_cons_zero, Act.put, List.setIfInBounds_toArray, List.set_cons_zero, List.set_cons_succ])
  refine wpAnyH_take (i := 18) (v := ?_) rfl (by kernel_rfl) (by kernel_rfl) (by kernel_rfl) (fun _ _ _ h => h) (Or.inl ⟨by rfl, ?_⟩) (by assumption) ?_
  rotate_left
  · intro w hSw; (try dsimp only at hSw); go_simp; (try with_reducible rfl)
  (try simp only [List.getElem_toArray, List.getElem_cons_succ, List.getElem_cons_zero, Act.put, List.setIfInBounds_toArray, List.set_cons_zero, List.set_cons_succ])
  refine wpAnyH_take (i := 19) (v := ?_) rfl (by kernel_rfl) (by kernel_rfl) (by kernel_rfl) (fun _ _ _ h => h) (Or.inl ⟨by rfl, ?_⟩) (by assumption) ?_
  rotate_left
  · intro w hSw; (try dsimp only at hSw); go_simp; (try with_reducible rfl)
  (try simp only [List.getElem_toArray, List.getElem_cons_succ, List.getElem_cons_zero, Act.put, List.setIfInBounds_toArray, List.set_cons_zero, List.set_cons_succ])
  refine wpAnyH_take (i := 23) (v := ?_) rfl (by kernel_rfl) (by kernel_rfl) (by kernel_rfl) (fun _ _ _ h => h) (Or.inl ⟨by rfl, ?_⟩) (by assumption) ?_
  rotate_left
  · intro w hSw; (try dsimp only at hSw); go_simp; (try with_reducible rfl)
  (try simp only [List.getElem_toArray, List.getElem_cons_succ, List.getElem_cons_zero, Act.put, List.setIfInBounds_toArray, List.set_cons_zero, List.set_cons_succ])
  refine wpAnyH_ready (rs := [20, 24]) (by kernel_rfl) (by simp) ?_
  refine AllReadyH.cons rfl (fun K hK => ?_) ?_
  ·
    go_simp
    refine hK.out _ _ ?_ (fun hHeld => ?_)
    · (try dsimp only); (first | assumption | exact HKS.out _ Hkn.out | exact HKS.out _ (Kn.drew Hkn.out) | exact HKS.out _ (Kn.alloc Hkn.out _) | exact HKS.out _ (Kn.drew (Kn.alloc Hkn.out _)) | exact HKS.out _ (Kn.alloc (Kn.alloc Hkn.out _) _))
    clear hK K
    (try simp only [List.getElem_toArray, List.getElem_cons_succ, List.getElem_cons_zero, Act.put, List.setIfInBounds_toArray, List.set_cons_zero, List.set_cons_succ])
    refine wpAnyH_ready (rs := [21, 24]) (by kernel_rfl) (by simp) ?_
    refine AllReadyH.cons rfl (fun K hK => ?_) ?_
    ·
      go_simp
      refine hK.out _ _ ?_ (fun hHeld => ?_)
      · (try dsimp only); (first | assumption | exact HKS.out _ Hkn.out | exact HKS.out _ (Kn.drew Hkn.out) | exact HKS.out _ (Kn.alloc Hkn.out _) | exact HKS.out _ (Kn.drew (Kn.alloc Hkn.out _)) | exact HKS.out _ (Kn.alloc (Kn.alloc Hkn.out _) _))
      clear hK K
      (try simp only [List.getElem_toArray, List.getElem_cons_succ, List.getElem_cons_zero, Act.put, List.setIfInBounds_toArray, List.set_cons_zero, List.set_cons_succ])
      refine wpAnyH_ready (rs := [22, 24]) (by kernel_rfl) (by simp) ?_
      refine AllReadyH.cons rfl (fun K hK => ?_) ?_
      ·
        go_simp
        (go_at_call_of 29 (3 : Nat); go_split_ands; refine (digest_any _ ?_ ?_ _ 3 [97, 98, 99] ?_ (by decide) (by decide)).mono ?_; exact Hk.out.below (Kn.below (by assumption)); exact Hbg.out.below (Kn.below (by assumption)); exact sl_row (T := 5) (fr := (3, 4)) (by first | exact heap_alloc_new _ _ | exact row2 _ _ _ | exact row3 _ _ _) [97, 98, 99] rfl 3 3 rfl (by decide); rintro e wn ⟨rfl, hbn⟩; have Hke := Lib.hid (show Kn w L1.toArray C2 B D _ by assumption); have Hkn := Lib.hid (Kn.next hbn (by assumption)); rw [HD3.out])
        (try go_wp2_with fail)
        refine hK.out _ _ ?_ (fun hHeld => ?_)
        · (try dsimp only); (first | assumption | exact HKS.out _ Hkn.out | exact HKS.out _ (Kn.drew Hkn.out) | exact HKS.out _ (Kn.alloc Hkn.out _) | exact HKS.out _ (Kn.drew (Kn.alloc Hkn.out _)) | exact HKS.out _ (Kn.alloc (Kn.alloc Hkn.out _) _))
        clear hK K
        (try simp only [List.getElem_toArray, List.getElem_cons_succ, List.getElem_cons_zero, Act.put, List.setIfInBounds_toArray, List.set_cons_zero, List.set_cons_succ])
        refine wpAnyH_ready (rs := [24]) (by kernel_rfl) (by simp) ?_
        refine AllReadyH.cons rfl (fun K hK => ?_) ?_
        rotate_left
        · exact AllReadyH.nil
        go_simp
        refine hK.out _ _ ?_ (fun hHeld => ?_)
        · (try dsimp only); (first | assumption | exact HKS.out _ Hkn.out | exact HKS.out _ (Kn.drew Hkn.out) | exact HKS.out _ (Kn.alloc Hkn.out _) | exact HKS.out _ (Kn.drew (Kn.alloc Hkn.out _)) | exact HKS.out _ (Kn.alloc (Kn.alloc Hkn.out _) _))
        clear hK K
        (try simp only [List.getElem_toArray, List.getElem_cons_succ, List.getElem_cons_zero, Act.put, List.setIfInBounds_toArray, List.set_cons_zero, List.set_cons_succ])
        refine wpAnyH_ready (rs := [25]) (by kernel_rfl) (by simp) ?_
        refine AllReadyH.cons rfl (fun K hK => ?_) ?_
        rotate_left
        · exact AllReadyH.nil
        go_simp
        (go_at_call 24; go_split_ands; refine (SHA_any _ ?_ ?_ _ 1 [A] ?_ (by simp; rw [HAl.out]; decide) (by simp)).mono ?_; exact Hk.out.below (Kn.below (by assumption)); exact Hbg.out.below (Kn.below (by assumption)); (first | exact parts_row HAl.out (by first | exact heap_alloc_new _ _ | exact row2 _ _ _ | exact row3 _ _ _) (HSl32.out _ (by assumption)) | exact (parts_row HAl.out (by first | exact heap_alloc_new _ _ | exact row2 _ _ _ | exact row3 _ _ _) (HSl32.out _ Hke.out)).below hbn); rintro e wn ⟨rfl, hbn⟩; have Hke := Lib.hid (show Kn w L1.toArray C2 B D _ by assumption); have Hkn := Lib.hid (Kn.next hbn (by assumption)); rw [HS3.out])
        (try go_wp2_with fail)
        refine hK.out _ _ ?_ (fun hHeld => ?_)
        · (try dsimp only); (first | assumption | exact HKS.out _ Hkn.out | exact HKS.out _ (Kn.drew Hkn.out) | exact HKS.out _ (Kn.alloc Hkn.out _) | exact HKS.out _ (Kn.drew (Kn.alloc Hkn.out _)) | exact HKS.out _ (Kn.alloc (Kn.alloc Hkn.out _) _))
        clear hK K
        (try simp only [List.getElem_toArray, List.getElem_cons_succ, List.getElem_cons_zero, Act.put, List.setIfInBounds_toArray, List.set_cons_zero, List.set_cons_succ])
        refine wpAnyH_take (i := 26) (v := ?_) rfl (by kernel_rfl) (by kernel_rfl) (by kernel_rfl) (fun _ _ _ h => h) (Or.inl ⟨by rfl, ?_⟩) (by assumption) ?_
        rotate_left
        · intro w hSw; (try dsimp only at hSw); go_simp; (try with_reducible rfl)
        (try simp only [List.getElem_toArray, List.getElem_cons_succ, List.getElem_cons_zero, Act.put, List.setIfInBounds_toArray, List.set_cons_zero, List.set_cons_succ])
        refine wpAnyH_take (i := 27) (v := ?_) rfl (by kernel_rfl) (by kernel_rfl) (by kernel_rfl) (fun _ _ _ h => h) (Or.inl ⟨by rfl, ?_⟩) (by assumption) ?_
        rotate_left
        · intro w hSw; (try dsimp only at hSw); go_simp; (try with_reducible rfl)
        (try simp only [List.getElem_toArray, List.getElem_cons_succ, List.getElem_cons_zero, Act.put, List.setIfInBounds_toArray, List.set_cons_zero, List.set_cons_succ])
        refine wpAnyH_take (i := 28) (v := ?_) rfl (by kernel_rfl) (by kernel_rfl) (by kernel_rfl) (fun _ _ _ h => h) (Or.inl ⟨by rfl, ?_⟩) (by assumption) ?_
        rotate_left
        · intro w hSw; (try dsimp only at hSw); go_simp; (try with_reducible rfl)
        (try simp only [List.getElem_toArray, List.getElem_cons_succ, List.getElem_cons_zero, Act.put, List.setIfInBounds_toArray, List.set_cons_zero, List.set_cons_succ])
        refine wpAnyH_done (by kernel_rfl) ?_ _
        refine NoPanic.normal ?_
        go_wp2
        go_ret
        exact ⟨rfl, Hkn.out.below⟩
      refine AllReadyH.cons rfl (fun K hK => ?_) ?_
      ·
        go_simp
        refine hK.out _ _ ?_ (fun hHeld => ?_)
        · (try dsimp only); (first | assumption | exact HKS.out _ Hkn.out | exact HKS.out _ (Kn.drew Hkn.out) | exact HKS.out _ (Kn.alloc Hkn.out _) | exact HKS.out _ (Kn.drew (Kn.alloc Hkn.out _)) | exact HKS.out _ (Kn.alloc (Kn.alloc Hkn.out _) _))
        clear hK K
        (try simp only [List.getElem_toArray, List.getElem_cons_succ, List.getElem_cons_zero, Act.put, List.setIfInBounds_toArray, List.set_cons_zero, List.set_cons_succ])
        refine wpAnyH_ready (rs := [22]) (by kernel_rfl) (by simp) ?_
        refine AllReadyH.cons rfl (fun K hK => ?_) ?_
        rotate_left
        · exact AllReadyH.nil
        go_simp
        (go_at_call_of 29 (3 : Nat); go_split_ands; refine (digest_any _ ?_ ?_ _ 3 [97, 98, 99] ?_ (by decide) (by decide)).mono ?_; exact Hk.out.below (Kn.below (by assumption)); exact Hbg.out.below (Kn.below (by assumption)); exact sl_row (T := 5) (fr := (3, 4)) (by first | exact heap_alloc_new _ _ | exact row2 _ _ _ | exact row3 _ _ _) [97, 98, 99] rfl 3 3 rfl (by decide); rintro e wn ⟨rfl, hbn⟩; have Hke := Lib.hid (show Kn w L1.toArray C2 B D _ by assumption); have Hkn := Lib.hid (Kn.next hbn (by assumption)); rw [HD3.out])
        (try go_wp2_with fail)
        refine hK.out _ _ ?_ (fun hHeld => ?_)
        · (try dsimp only); (first | assumption | exact HKS.out _ Hkn.out | exact HKS.out _ (Kn.drew Hkn.out) | exact HKS.out _ (Kn.alloc Hkn.out _) | exact HKS.out _ (Kn.drew (Kn.alloc Hkn.out _)) | exact HKS.out _ (Kn.alloc (Kn.alloc Hkn.out _) _))
        clear hK K
        (try simp only [List.getElem_toArray, List.getElem_cons_succ, List.getElem_cons_zero, Act.put, List.setIfInBounds_toArray, List.set_cons_zero, List.set_cons_succ])
        refine wpAnyH_ready (rs := [25]) (by kernel_rfl) (by simp) ?_
        refine AllReadyH.cons rfl (fun K hK => ?_) ?_
        rotate_left
        · exact AllReadyH.nil
        go_simp
        (go_at_call 24; go_split_ands; refine (SHA_any _ ?_ ?_ _ 1 [A] ?_ (by simp; rw [HAl.out]; decide) (by simp)).mono ?_; exact Hk.out.below (Kn.below (by assumption)); exact Hbg.out.below (Kn.below (by assumption)); (first | exact parts_row HAl.out (by first | exact heap_alloc_new _ _ | exact row2 _ _ _ | exact row3 _ _ _) (HSl32.out _ (by assumption)) | exact (parts_row HAl.out (by first | exact heap_alloc_new _ _ | exact row2 _ _ _ | exact row3 _ _ _) (HSl32.out _ Hke.out)).below hbn); rintro e wn ⟨rfl, hbn⟩; have Hke := Lib.hid (show Kn w L1.toArray C2 B D _ by assumption); have Hkn := Lib.hid (Kn.next hbn (by assumption)); rw [HS3.out])
        (try go_wp2_with fail)
        refine hK.out _ _ ?_ (fun hHeld => ?_)
        · (try dsimp only); (first | assumption | exact HKS.out _ Hkn.out | exact HKS.out _ (Kn.drew Hkn.out) | exact HKS.out _ (Kn.alloc Hkn.out _) | exact HKS.out _ (Kn.drew (Kn.alloc Hkn.out _)) | exact HKS.out _ (Kn.alloc (Kn.alloc Hkn.out _) _))
        clear hK K
        (try simp only [List.getElem_toArray, List.getElem_cons_succ, List.getElem_cons_zero, Act.put, List.setIfInBounds_toArray, List.set_cons_zero, List.set_cons_succ])
        refine wpAnyH_take (i := 26) (v := ?_) rfl (by kernel_rfl) (by kernel_rfl) (by kernel_rfl) (fun _ _ _ h => h) (Or.inl ⟨by rfl, ?_⟩) (by assumption) ?_
        rotate_left
        · intro w hSw; (try dsimp only at hSw); go_simp; (try with_reducible rfl)
        (try simp only [List.getElem_toArray, List.getElem_cons_succ, List.getElem_cons_zero, Act.put, List.setIfInBounds_toArray, List.set_cons_zero, List.set_cons_succ])
        refine wpAnyH_take (i := 27) (v := ?_) rfl (by kernel_rfl) (by kernel_rfl) (by kernel_rfl) (fun _ _ _ h => h) (Or.inl ⟨by rfl, ?_⟩) (by assumption) ?_
        rotate_left
        · intro w hSw; (try dsimp only at hSw); go_simp; (try with_reducible rfl)
        (try simp only [List.getElem_toArray, List.getElem_cons_succ, List.getElem_cons_zero, Act.put, List.setIfInBounds_toArray, List.set_cons_zero, List.set_cons_succ])
        refine wpAnyH_take (i := 28) (v := ?_) rfl (by kernel_rfl) (by kernel_rfl) (by kernel_rfl) (fun _ _ _ h => h) (Or.inl ⟨by rfl, ?_⟩) (by assumption) ?_
        rotate_left
        · intro w hSw; (try dsimp only at hSw); go_simp; (try with_reducible rfl)
        (try simp only [List.getElem_toArray, List.getElem_cons_succ, List.getElem_cons_zero, Act.put, List.setIfInBounds_toArray, List.set_cons_zero, List.set_cons_succ])
        refine wpAnyH_done (by kernel_rfl) ?_ _
        refine NoPanic.normal ?_
        go_wp2
        go_ret
        exact ⟨rfl, Hkn.out.below⟩
      exact AllReadyH.nil
    refine AllReadyH.cons rfl (fun K hK => ?_) ?_
    ·
      go_simp
      refine hK.out _ _ ?_ (fun hHeld => ?_)
      · (try dsimp only); (first | assumption | exact HKS.out _ Hkn.out | exact HKS.out _ (Kn.drew Hkn.out) | exact HKS.out _ (Kn.alloc Hkn.out _) | exact HKS.out _ (Kn.drew (Kn.alloc Hkn.out _)) | exact HKS.out _ (Kn.alloc (Kn.alloc Hkn.out _) _))
      clear hK K
      (try simp only [List.getElem_toArray, List.getElem_cons_succ, List.getElem_cons_zero, Act.put, List.setIfInBounds_toArray, List.set_cons_zero, List.set_cons_succ])
      refine wpAnyH_ready (rs := [21]) (by kernel_rfl) (by simp) ?_
      refine AllReadyH.cons rfl (fun K hK => ?_) ?_
      rotate_left
      · exact AllReadyH.nil
      go_simp
      refine hK.out _ _ ?_ (fun hHeld => ?_)
      · (try dsimp only); (first | assumption | exact HKS.out _ Hkn.out | exact HKS.out _ (Kn.drew Hkn.out) | exact HKS.out _ (Kn.alloc Hkn.out _) | exact HKS.out _ (Kn.drew (Kn.alloc Hkn.out _)) | exact HKS.out _ (Kn.alloc (Kn.alloc Hkn.out _) _))
      clear hK K
      (try simp only [List.getElem_toArray, List.getElem_cons_succ, List.getElem_cons_zero, Act.put, List.setIfInBounds_toArray, List.set_cons_zero, List.set_cons_succ])
      refine wpAnyH_ready (rs := [22]) (by kernel_rfl) (by simp) ?_
      refine AllReadyH.cons rfl (fun K hK => ?_) ?_
      rotate_left
      · exact AllReadyH.nil
      go_simp
      (go_at_call_of 29 (3 : Nat); go_split_ands; refine (digest_any _ ?_ ?_ _ 3 [97, 98, 99] ?_ (by decide) (by decide)).mono ?_; exact Hk.out.below (Kn.below (by assumption)); exact Hbg.out.below (Kn.below (by assumption)); exact sl_row (T := 5) (fr := (3, 4)) (by first | exact heap_alloc_new _ _ | exact row2 _ _ _ | exact row3 _ _ _) [97, 98, 99] rfl 3 3 rfl (by decide); rintro e wn ⟨rfl, hbn⟩; have Hke := Lib.hid (show Kn w L1.toArray C2 B D _ by assumption); have Hkn := Lib.hid (Kn.next hbn (by assumption)); rw [HD3.out])
      (try go_wp2_with fail)
      refine hK.out _ _ ?_ (fun hHeld => ?_)
      · (try dsimp only); (first | assumption | exact HKS.out _ Hkn.out | exact HKS.out _ (Kn.drew Hkn.out) | exact HKS.out _ (Kn.alloc Hkn.out _) | exact HKS.out _ (Kn.drew (Kn.alloc Hkn.out _)) | exact HKS.out _ (Kn.alloc (Kn.alloc Hkn.out _) _))
      clear hK K
      (try simp only [List.getElem_toArray, List.getElem_cons_succ, List.getElem_cons_zero, Act.put, List.setIfInBounds_toArray, List.set_cons_zero, List.set_cons_succ])
      refine wpAnyH_ready (rs := [25]) (by kernel_rfl) (by simp) ?_
      refine AllReadyH.cons rfl (fun K hK => ?_) ?_
      rotate_left
      · exact AllReadyH.nil
      go_simp
      (go_at_call 24; go_split_ands; refine (SHA_any _ ?_ ?_ _ 1 [A] ?_ (by simp; rw [HAl.out]; decide) (by simp)).mono ?_; exact Hk.out.below (Kn.below (by assumption)); exact Hbg.out.below (Kn.below (by assumption)); (first | exact parts_row HAl.out (by first | exact heap_alloc_new _ _ | exact row2 _ _ _ | exact row3 _ _ _) (HSl32.out _ (by assumption)) | exact (parts_row HAl.out (by first | exact heap_alloc_new _ _ | exact row2 _ _ _ | exact row3 _ _ _) (HSl32.out _ Hke.out)).below hbn); rintro e wn ⟨rfl, hbn⟩; have Hke := Lib.hid (show Kn w L1.toArray C2 B D _ by assumption); have Hkn := Lib.hid (Kn.next hbn (by assumption)); rw [HS3.out])
      (try go_wp2_with fail)
      refine hK.out _ _ ?_ (fun hHeld => ?_)
      · (try dsimp only); (first | assumption | exact HKS.out _ Hkn.out | exact HKS.out _ (Kn.drew Hkn.out) | exact HKS.out _ (Kn.alloc Hkn.out _) | exact HKS.out _ (Kn.drew (Kn.alloc Hkn.out _)) | exact HKS.out _ (Kn.alloc (Kn.alloc Hkn.out _) _))
      clear hK K
      (try simp only [List.getElem_toArray, List.getElem_cons_succ, List.getElem_cons_zero, Act.put, List.setIfInBounds_toArray, List.set_cons_zero, List.set_cons_succ])
      refine wpAnyH_take (i := 26) (v := ?_) rfl (by kernel_rfl) (by kernel_rfl) (by kernel_rfl) (fun _ _ _ h => h) (Or.inl ⟨by rfl, ?_⟩) (by assumption) ?_
      rotate_left
      · intro w hSw; (try dsimp only at hSw); go_simp; (try with_reducible rfl)
      (try simp only [List.getElem_toArray, List.getElem_cons_succ, List.getElem_cons_zero, Act.put, List.setIfInBounds_toArray, List.set_cons_zero, List.set_cons_succ])
      refine wpAnyH_take (i := 27) (v := ?_) rfl (by kernel_rfl) (by kernel_rfl) (by kernel_rfl) (fun _ _ _ h => h) (Or.inl ⟨by rfl, ?_⟩) (by assumption) ?_
      rotate_left
      · intro w hSw; (try dsimp only at hSw); go_simp; (try with_reducible rfl)
      (try simp only [List.getElem_toArray, List.getElem_cons_succ, List.getElem_cons_zero, Act.put, List.setIfInBounds_toArray, List.set_cons_zero, List.set_cons_succ])
      refine wpAnyH_take (i := 28) (v := ?_) rfl (by kernel_rfl) (by kernel_rfl) (by kernel_rfl) (fun _ _ _ h => h) (Or.inl ⟨by rfl, ?_⟩) (by assumption) ?_
      rotate_left
      · intro w hSw; (try dsimp only at hSw); go_simp; (try with_reducible rfl)
      (try simp only [List.getElem_toArray, List.getElem_cons_succ, List.getElem_cons_zero, Act.put, List.setIfInBounds_toArray, List.set_cons_zero, List.set_cons_succ])
      refine wpAnyH_done (by kernel_rfl) ?_ _
      refine NoPanic.normal ?_
      go_wp2
      go_ret
      exact ⟨rfl, Hkn.out.below⟩
    exact AllReadyH.nil
  refine AllReadyH.cons rfl (fun K hK => ?_) ?_
  ·
    go_simp
    refine hK.out _ _ ?_ (fun hHeld => ?_)
    · (try dsimp only); (first | assumption | exact HKS.out _ Hkn.out | exact HKS.out _ (Kn.drew Hkn.out) | exact HKS.out _ (Kn.alloc Hkn.out _) | exact HKS.out _ (Kn.drew (Kn.alloc Hkn.out _)) | exact HKS.out _ (Kn.alloc (Kn.alloc Hkn.out _) _))
    clear hK K
    (try simp only [List.getElem_toArray, List.getElem_cons_succ, List.getElem_cons_zero, Act.put, List.setIfInBounds_toArray, List.set_cons_zero, List.set_cons_succ])
    refine wpAnyH_ready (rs := [20]) (by kernel_rfl) (by simp) ?_
    refine AllReadyH.cons rfl (fun K hK => ?_) ?_
    rotate_left
    · exact AllReadyH.nil
    go_simp
    refine hK.out _ _ ?_ (fun hHeld => ?_)
    · (try dsimp only); (first | assumption | exact HKS.out _ Hkn.out | exact HKS.out _ (Kn.drew Hkn.out) | exact HKS.out _ (Kn.alloc Hkn.out _) | exact HKS.out _ (Kn.drew (Kn.alloc Hkn.out _)) | exact HKS.out _ (Kn.alloc (Kn.alloc Hkn.out _) _))
    clear hK K
    (try simp only [List.getElem_toArray, List.getElem_cons_succ, List.getElem_cons_zero, Act.put, List.setIfInBounds_toArray, List.set_cons_zero, List.set_cons_succ])
    refine wpAnyH_ready (rs := [21]) (by kernel_rfl) (by simp) ?_
    refine AllReadyH.cons rfl (fun K hK => ?_) ?_
    rotate_left
    · exact AllReadyH.nil
    go_simp
    refine hK.out _ _ ?_ (fun hHeld => ?_)
    · (try dsimp only); (first | assumption | exact HKS.out _ Hkn.out | exact HKS.out _ (Kn.drew Hkn.out) | exact HKS.out _ (Kn.alloc Hkn.out _) | exact HKS.out _ (Kn.drew (Kn.alloc Hkn.out _)) | exact HKS.out _ (Kn.alloc (Kn.alloc Hkn.out _) _))
    clear hK K
    (try simp only [List.getElem_toArray, List.getElem_cons_succ, List.getElem_cons_zero, Act.put, List.setIfInBounds_toArray, List.set_cons_zero, List.set_cons_succ])
    refine wpAnyH_ready (rs := [22]) (by kernel_rfl) (by simp) ?_
    refine AllReadyH.cons rfl (fun K hK => ?_) ?_
    rotate_left
    · exact AllReadyH.nil
    go_simp
    (go_at_call_of 29 (3 : Nat); go_split_ands; refine (digest_any _ ?_ ?_ _ 3 [97, 98, 99] ?_ (by decide) (by decide)).mono ?_; exact Hk.out.below (Kn.below (by assumption)); exact Hbg.out.below (Kn.below (by assumption)); exact sl_row (T := 5) (fr := (3, 4)) (by first | exact heap_alloc_new _ _ | exact row2 _ _ _ | exact row3 _ _ _) [97, 98, 99] rfl 3 3 rfl (by decide); rintro e wn ⟨rfl, hbn⟩; have Hke := Lib.hid (show Kn w L1.toArray C2 B D _ by assumption); have Hkn := Lib.hid (Kn.next hbn (by assumption)); rw [HD3.out])
    (try go_wp2_with fail)
    refine hK.out _ _ ?_ (fun hHeld => ?_)
    · (try dsimp only); (first | assumption | exact HKS.out _ Hkn.out | exact HKS.out _ (Kn.drew Hkn.out) | exact HKS.out _ (Kn.alloc Hkn.out _) | exact HKS.out _ (Kn.drew (Kn.alloc Hkn.out _)) | exact HKS.out _ (Kn.alloc (Kn.alloc Hkn.out _) _))
    clear hK K
    (try simp only [List.getElem_toArray, List.getElem_cons_succ, List.getElem_cons_zero, Act.put, List.setIfInBounds_toArray, List.set_cons_zero, List.set_cons_succ])
    refine wpAnyH_ready (rs := [25]) (by kernel_rfl) (by simp) ?_
    refine AllReadyH.cons rfl (fun K hK => ?_) ?_
    rotate_left
    · exact AllReadyH.nil
    go_simp
    (go_at_call 24; go_split_ands; refine (SHA_any _ ?_ ?_ _ 1 [A] ?_ (by simp; rw [HAl.out]; decide) (by simp)).mono ?_; exact Hk.out.below (Kn.below (by assumption)); exact Hbg.out.below (Kn.below (by assumption)); (first | exact parts_row HAl.out (by first | exact heap_alloc_new _ _ | exact row2 _ _ _ | exact row3 _ _ _) (HSl32.out _ (by assumption)) | exact (parts_row HAl.out (by first | exact heap_alloc_new _ _ | exact row2 _ _ _ | exact row3 _ _ _) (HSl32.out _ Hke.out)).below hbn); rintro e wn ⟨rfl, hbn⟩; have Hke := Lib.hid (show Kn w L1.toArray C2 B D _ by assumption); have Hkn := Lib.hid (Kn.next hbn (by assumption)); rw [HS3.out])
    (try go_wp2_with fail)
    refine hK.out _ _ ?_ (fun hHeld => ?_)
    · (try dsimp only); (first | assumption | exact HKS.out _ Hkn.out | exact HKS.out _ (Kn.drew Hkn.out) | exact HKS.out _ (Kn.alloc Hkn.out _) | exact HKS.out _ (Kn.drew (Kn.alloc Hkn.out _)) | exact HKS.out _ (Kn.alloc (Kn.alloc Hkn.out _) _))
    clear hK K
    (try simp only [List.getElem_toArray, List.getElem_cons_succ, List.getElem_cons_zero, Act.put, List.setIfInBounds_toArray, List.set_cons_zero, List.set_cons_succ])
    refine wpAnyH_take (i := 26) (v := ?_) rfl (by kernel_rfl) (by kernel_rfl) (by kernel_rfl) (fun _ _ _ h => h) (Or.inl ⟨by rfl, ?_⟩) (by assumption) ?_
    rotate_left
    · intro w hSw; (try dsimp only at hSw); go_simp; (try with_reducible rfl)
    (try simp only [List.getElem_toArray, List.getElem_cons_succ, List.getElem_cons_zero, Act.put, List.setIfInBounds_toArray, List.set_cons_zero, List.set_cons_succ])
    refine wpAnyH_take (i := 27) (v := ?_) rfl (by kernel_rfl) (by kernel_rfl) (by kernel_rfl) (fun _ _ _ h => h) (Or.inl ⟨by rfl, ?_⟩) (by assumption) ?_
    rotate_left
    · intro w hSw; (try dsimp only at hSw); go_simp; (try with_reducible rfl)
    (try simp only [List.getElem_toArray, List.getElem_cons_succ, List.getElem_cons_zero, Act.put, List.setIfInBounds_toArray, List.set_cons_zero, List.set_cons_succ])
    refine wpAnyH_take (i := 28) (v := ?_) rfl (by kernel_rfl) (by kernel_rfl) (by kernel_rfl) (fun _ _ _ h => h) (Or.inl ⟨by rfl, ?_⟩) (by assumption) ?_
    rotate_left
    · intro w hSw; (try dsimp only at hSw); go_simp; (try with_reducible rfl)
    (try simp only [List.getElem_toArray, List.getElem_cons_succ, List.getElem_cons_zero, Act.put, List.setIfInBounds_toArray, List.set_cons_zero, List.set_cons_succ])
    refine wpAnyH_done (by kernel_rfl) ?_ _
    refine NoPanic.normal ?_
    go_wp2
    go_ret
    exact ⟨rfl, Hkn.out.below⟩
  exact AllReadyH.nil
end Go.Proofs.YtefobboakikpbaaDoor
