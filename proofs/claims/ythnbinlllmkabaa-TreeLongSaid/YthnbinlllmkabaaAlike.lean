/- The law's alike, given what Node answers. -/
import Derived.Test.YthnbinlllmkabaaSame
import Derived.Test.YthnbinlllmkabaaPlain
import Derived.Deep.RegionHeld3
namespace Go.Proofs.Ythnbinlllmkabaa
open Go.RowKit
set_option linter.unusedVariables false
set_option linter.unusedSimpArgs false

set_option maxHeartbeats 4000000 in
set_option maxRecDepth 100000 in
theorem alike_of (F G : Nat → Prop) (d dn : Nat) (w : World) (tp : Addr) (N n : Nd) (a : Option Addr) (c : Nat) (hn : NodeIn w F d n a) (hFw : ∀ b, F b → b < w.heap.size) (hpt : n.parts ≤ 1000000)
    (hnode : ∀ w', Below w.heap.size w w' → Calls Try.prog 46 #[.pointer (some tp)] w' fun e w3 => ∃ (a' : Option Addr) (c' : Nat), e = .returned (.agg (N.row a' c').toArray) ∧ NodeIn w3 G dn N a' ∧ Below w'.heap.size w' w3) :
    Calls Try.prog 14 #[.pointer (some tp), .agg (n.row a c).toArray] w fun e w' => e = .returned (.bool (decide (N.name = (n.named ⟨#[]⟩).name) && N.alike (n.named ⟨#[]⟩))) ∧ Below w.heap.size w w' := by
  have hbl := on_alloc (Below.refl _ w) (.cells (n.row a c).toArray 30)
  have hrw := rangeAt_row (heap_alloc_new w (.cells (n.row a c).toArray 30))
  have inf41 : (Try.prog.info? 30).map (·.size) = some (n.row a c).length := by rw [row_len hn.vwf]; kernel_rfl
  have und41 := Try.underlying30
  have Hpt := Lib.hid hpt
  have Hn0 := Lib.hid hn
  have Hnode0 := Lib.hid hnode
  clear hn hpt hnode
  go_enter Try.func14, Try.ntmps14
  go_wp2_with fail
  generalize w.alloc (.cells (n.row a c).toArray 30) = w2 at hbl hrw ⊢
  obtain ⟨B, hB⟩ : ∃ B, B = w.heap.size := ⟨_, rfl⟩
  rw [← hB] at hrw
  rw [← hB]
  have hnd : ∀ w', Below w2.heap.size w2 w' → Calls Try.prog 46 #[.pointer (some tp)] w' fun e w3 => ∃ (a' : Option Addr) (c' : Nat), e = .returned (.agg (N.row a' c').toArray) ∧ NodeIn w3 G dn N a' ∧ Below w'.heap.size w' w3 := fun w' hb => Hnode0.out w' (below_on hbl hb)
  have Hnode := Lib.hid hnd
  have Hn := Lib.hid (Hn0.out.below hbl)
  have hF2 : ∀ b, F b → b < w2.heap.size := fun b hb => Nat.lt_of_lt_of_le (hFw b hb) hbl.size
  have hkeep : ∀ w', Below w2.heap.size w2 w' → Below w2.heap.size w2 w' ∧ w'.rangeAt B 0 (n.row a c) := fun w' hb => ⟨hb, rangeAt_kept hrw (Upd.below hb (fun _ => False)) id⟩
  have HK := Lib.hid hkeep
  have Hbl := Lib.hid hbl
  clear hFw
  have hFw := hF2
  clear hbl hrw hB hnd hkeep hF2 Hn0 Hnode0
  refine wp_region_noPanic ?_
  refine wp_region_held_drew (S := (fun w' => Below w2.heap.size w2 w' ∧ w'.rangeAt B 0 (n.row a c))) (by kernel_rfl) ?_ (fun hHeld => ?_)
  · (try dsimp only); (first | assumption | exact HK.out _ Hk1.out | exact HK.out _ (on_drew Hk1.out) | exact HK.out _ Hk2.out | exact HK.out _ (on_drew Hk2.out) | exact HK.out _ Hk3.out | exact HK.out _ (on_drew Hk3.out) | exact HK.out _ (Below.refl _ _) | exact HK.out _ (on_drew (Below.refl _ _)))
  refine wpAnyH_take (i := 0) (v := ?_) rfl (by kernel_rfl) (by kernel_rfl) (by kernel_rfl) (fun _ _ _ h => h) (Or.inl ⟨by rfl, ?_⟩) (by assumption) ?_
  rotate_left
  · intro w hSw; (try dsimp only at hSw); go_simp; (try with_reducible rfl)
  (try simp only [List.getElem_toArray, List.getElem_cons_succ, List.getElem_cons_zero, Act.put, List.setIfInBounds_toArray, List.set_cons_zero, List.set_cons_succ])
  refine wpAnyH_take (i := 1) (v := ?_) rfl (by kernel_rfl) (by kernel_rfl) (by kernel_rfl) (fun _ _ _ h => h) (Or.inl ⟨by rfl, ?_⟩) (by assumption) ?_
  rotate_left
  · intro w hSw; (try dsimp only at hSw); go_simp; (try with_reducible rfl)
  (try simp only [List.getElem_toArray, List.getElem_cons_succ, List.getElem_cons_zero, Act.put, List.setIfInBounds_toArray, List.set_cons_zero, List.set_cons_succ])
  refine wpAnyH_take (i := 2) (v := ?_) rfl (by kernel_rfl) (by kernel_rfl) (by kernel_rfl) (fun _ _ _ h => h) (Or.inl ⟨by rfl, ?_⟩) (by assumption) ?_
  rotate_left
  · intro w hSw; (try dsimp only at hSw); go_simp; (try with_reducible rfl)
  (try simp only [List.getElem_toArray, List.getElem_cons_succ, List.getElem_cons_zero, Act.put, List.setIfInBounds_toArray, List.set_cons_zero, List.set_cons_succ])
  refine wpAnyH_take (i := 3) (v := ?_) rfl (by kernel_rfl) (by kernel_rfl) (by kernel_rfl) (fun _ _ _ h => h) (Or.inl ⟨by rfl, ?_⟩) (by assumption) ?_
  rotate_left
  · intro w hSw; (try dsimp only at hSw); go_simp; (try with_reducible rfl)
  (try simp only [List.getElem_toArray, List.getElem_cons_succ, List.getElem_cons_zero, Act.put, List.setIfInBounds_toArray, List.set_cons_zero, List.set_cons_succ])
  refine' wpAnyH_take (i := 5) (v := _) rfl (by kernel_rfl) (by kernel_rfl) (by kernel_rfl) (fun _ _ _ h => h) (yieldsIf_load_mid (by rfl) _ _ rfl _ _ rfl _ _ ?hS5 ?hu5 ?hd5 ?hi5) (by assumption) ?rest1
  case hS5 => (intro w hSw; (try dsimp only at hSw); go_split_ands; assumption)
  case hu5 => assumption
  case hd5 => rfl
  case hi5 => first | assumption | (simp only [*]; done)
  (try simp only [List.getElem_toArray, List.getElem_cons_succ, List.getElem_cons_zero, Act.put, List.setIfInBounds_toArray, List.set_cons_zero, List.set_cons_succ])
  refine wpAnyH_ready (rs := [4]) (by kernel_rfl) (by simp) ?_
  refine AllReadyH.cons rfl (fun K hK => ?_) ?_
  rotate_left
  · exact AllReadyH.nil
  go_simp
  go_at_call 46
  refine (Hnode.out _ (by first | exact Below.refl _ _ | exact on_drew (Below.refl _ _))).mono ?_
  rintro e wn1 ⟨aN, cN, rfl, hnN, hbn⟩
  have HN := Lib.hid hnN
  have Hb1 := Lib.hid hbn
  have Hk1 := Lib.hid (below_on (show Below w2.heap.size w2 _ by first | exact Below.refl _ _ | exact on_drew (Below.refl _ _)) hbn)
  clear hnN hbn
  (try go_wp2_with fail)
  refine hK.out _ _ ?_ (fun hHeld => ?_)
  · (try dsimp only); (first | assumption | exact HK.out _ Hk1.out | exact HK.out _ (on_drew Hk1.out) | exact HK.out _ Hk2.out | exact HK.out _ (on_drew Hk2.out) | exact HK.out _ Hk3.out | exact HK.out _ (on_drew Hk3.out) | exact HK.out _ (Below.refl _ _) | exact HK.out _ (on_drew (Below.refl _ _)))
  clear hK K
  (try simp only [List.getElem_toArray, List.getElem_cons_succ, List.getElem_cons_zero, Act.put, List.setIfInBounds_toArray, List.set_cons_zero, List.set_cons_succ])
  refine wpAnyH_ready (rs := [6]) (by kernel_rfl) (by simp) ?_
  refine AllReadyH.cons rfl (fun K hK => ?_) ?_
  rotate_left
  · exact AllReadyH.nil
  go_simp
  go_at_call 64
  refine (plain_ok F d _ n a c (Hn.out.below (by first | exact Hk1.out | exact on_drew (Hk1.out))) (fun b hb => Nat.lt_of_lt_of_le (hFw b hb) (Below.size (by first | exact Hk1.out | exact on_drew (Hk1.out)))) Hpt.out).mono ?_
  rintro e wn2 ⟨aP, cP, rfl, hnP, hbn⟩
  have HP := Lib.hid hnP
  have Hb2 := Lib.hid hbn
  have Hk2 := Lib.hid (below_on (show Below w2.heap.size w2 _ by first | exact Hk1.out | exact on_drew (Hk1.out)) hbn)
  clear hnP hbn
  (try go_wp2_with fail)
  refine hK.out _ _ ?_ (fun hHeld => ?_)
  · (try dsimp only); (first | assumption | exact HK.out _ Hk1.out | exact HK.out _ (on_drew Hk1.out) | exact HK.out _ Hk2.out | exact HK.out _ (on_drew Hk2.out) | exact HK.out _ Hk3.out | exact HK.out _ (on_drew Hk3.out) | exact HK.out _ (Below.refl _ _) | exact HK.out _ (on_drew (Below.refl _ _)))
  clear hK K
  (try simp only [List.getElem_toArray, List.getElem_cons_succ, List.getElem_cons_zero, Act.put, List.setIfInBounds_toArray, List.set_cons_zero, List.set_cons_succ])
  refine wpAnyH_ready (rs := [7]) (by kernel_rfl) (by simp) ?_
  refine AllReadyH.cons rfl (fun K hK => ?_) ?_
  rotate_left
  · exact AllReadyH.nil
  go_simp
  go_at_call 15
  refine (sameNode_any (d + dn) _ _ _ N (n.named ⟨#[]⟩) aN cN aP cP (((HN.out.below Hb2.out).below (by first | exact Below.refl _ _ | exact on_drew (Below.refl _ _))).deeper (Nat.le_add_left dn d)) (((HP.out).below (by first | exact Below.refl _ _ | exact on_drew (Below.refl _ _))).deeper (Nat.le_add_right d dn))).mono ?_
  rintro e wn3 ⟨rfl, hbn⟩
  have Hk3 := Lib.hid (below_on (show Below w2.heap.size w2 _ by first | exact Hk2.out | exact on_drew Hk2.out) hbn)
  clear hbn
  (try go_wp2_with fail)
  refine hK.out _ _ ?_ (fun hHeld => ?_)
  · (try dsimp only); (first | assumption | exact HK.out _ Hk1.out | exact HK.out _ (on_drew Hk1.out) | exact HK.out _ Hk2.out | exact HK.out _ (on_drew Hk2.out) | exact HK.out _ Hk3.out | exact HK.out _ (on_drew Hk3.out) | exact HK.out _ (Below.refl _ _) | exact HK.out _ (on_drew (Below.refl _ _)))
  clear hK K
  (try simp only [List.getElem_toArray, List.getElem_cons_succ, List.getElem_cons_zero, Act.put, List.setIfInBounds_toArray, List.set_cons_zero, List.set_cons_succ])
  refine wpAnyH_take (i := 8) (v := ?_) rfl (by kernel_rfl) (by kernel_rfl) (by kernel_rfl) (fun _ _ _ h => h) (Or.inl ⟨by rfl, ?_⟩) (by assumption) ?_
  rotate_left
  · intro w hSw; (try dsimp only at hSw); go_simp; (try with_reducible rfl)
  (try simp only [List.getElem_toArray, List.getElem_cons_succ, List.getElem_cons_zero, Act.put, List.setIfInBounds_toArray, List.set_cons_zero, List.set_cons_succ])
  refine wpAnyH_take (i := 9) (v := ?_) rfl (by kernel_rfl) (by kernel_rfl) (by kernel_rfl) (fun _ _ _ h => h) (Or.inl ⟨by rfl, ?_⟩) (by assumption) ?_
  rotate_left
  · intro w hSw; (try dsimp only at hSw); go_simp; (try with_reducible rfl)
  (try simp only [List.getElem_toArray, List.getElem_cons_succ, List.getElem_cons_zero, Act.put, List.setIfInBounds_toArray, List.set_cons_zero, List.set_cons_succ])
  refine wpAnyH_done (by kernel_rfl) ?_ _
  refine NoPanic.normal ?_
  go_wp2_with fail
  go_ret
  exact ⟨rfl, below_on Hbl.out Hk3.out⟩
end Go.Proofs.Ythnbinlllmkabaa
