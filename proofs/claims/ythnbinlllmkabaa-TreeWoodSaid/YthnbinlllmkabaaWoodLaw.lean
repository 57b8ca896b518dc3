/- TreeWood, walked. (Written by gen_woodlaw.py.) -/
import Derived.Test.YthnbinlllmkabaaWoodOf
import Derived.Test.YthnbinlllmkabaaDepth
import Derived.Test.YthnbinlllmkabaaAlike
import Derived.Test.YthnbinlllmkabaaNode
import Derived.Test.YthnbinlllmkabaaTSame
import Derived.Test.YthnbinlllmkabaaKnown
import Derived.Deep.RegionHeld3
namespace Go.Proofs.Ythnbinlllmkabaa
open Go.RowKit Go.Shelf
set_option linter.unusedVariables false
set_option linter.unusedSimpArgs false

theorem treeNode_okW (F : Nat → Prop) (d : Nat) (w : World) (p : Nat) (n : Nd) (ht : TreeAt w F d p n) (hpt : n.parts ≤ 1000000) :
    Calls Try.prog 46 #[.pointer (some ⟨p, 0, none⟩)] w fun e w3 => ∃ (a' : Option Addr) (c' : Nat), e = .returned (.agg ((n.named ⟨#[]⟩).row a' c').toArray) ∧ NodeIn w3 (fun b => w.heap.size ≤ b) d (n.named ⟨#[]⟩) a' ∧ Below w.heap.size w w3 :=
  treeNode_of d w ⟨p, 0, none⟩ (n.named ⟨#[]⟩) (fun w2 hb => node_ok d (fun b => b < w2.heap.size) w2 p n ⟨#[]⟩ (TreeAt.mono (fun b _ hl => hl) d p n (ht.below hb)) (fun b hb => hb) hpt (by decide))
theorem alike_trueW (F FT : Nat → Prop) (d dt : Nat) (w : World) (p : Nat) (n : Nd) (a : Option Addr) (c : Nat) (hn : NodeIn w F d n a) (hF : ∀ b, F b → b < w.heap.size) (ht : TreeAt w FT dt p n) (hpt : n.parts ≤ 1000000) :
    Calls Try.prog 14 #[.pointer (some ⟨p, 0, none⟩), .agg (n.row a c).toArray] w fun e w' => e = .returned (.bool true) ∧ Below w.heap.size w w' := by
  refine (alike_of F (fun _ => True) d dt w ⟨p, 0, none⟩ (n.named ⟨#[]⟩) n a c hn hF hpt (fun w' hb => ?_)).mono ?_
  · refine (treeNode_okW FT dt w' p n (ht.below hb) hpt).mono ?_
    rintro e w3 ⟨a', c', rfl, h1, h2⟩
    exact ⟨a', c', rfl, h1.mono (fun _ _ _ => trivial), h2⟩
  · rintro e w' ⟨rfl, hb⟩
    refine ⟨?_, hb⟩
    have h1 : (decide ((n.named ⟨#[]⟩).name = (n.named ⟨#[]⟩).name) && (n.named ⟨#[]⟩).alike (n.named ⟨#[]⟩)) = true := by
      rw [show (n.named ⟨#[]⟩).alike (n.named ⟨#[]⟩) = true from alike_self (n.named ⟨#[]⟩) ⟨#[]⟩]; simp
    rw [h1]
theorem openV_falseW (v u : Vl) : openV false v u = v := by unfold openV; rw [if_neg (by simp)]
mutual
theorem same_reflW : ∀ n : Nd, sameO false n n = true
  | .mk a v m ks => by rw [sameO, openV_falseW, decide_eq_true rfl, decide_eq_true rfl, sameKids_reflW ks]; rfl
theorem sameKids_reflW : ∀ ks : List Nd, sameKids false ks ks = true
  | [] => by simp [sameKids]
  | k :: ks => by rw [sameKids, same_reflW k, sameKids_reflW ks]; rfl
end
theorem same_namedW (n : Nd) (s : ByteArray) : sameO false n (n.named s) = true := by
  have h := same_reflW n
  rw [sameO_eq] at h ⊢
  exact h
theorem named_leW (x : Nd) : (x.named ⟨#[]⟩).parts ≤ x.parts := by
  rw [parts_eq, parts_eq x]
  show 1 + 0 + partsAll x.kids ≤ 1 + x.name.size + partsAll x.kids
  omega
set_option maxHeartbeats 8000000 in
set_option maxRecDepth 100000 in
theorem wood_law (w : World) (s z : Int) (hs1 : -9223372036854775808 ≤ s) (hs2 : s ≤ 9223372036854775807) (hz1 : -9223372036854775808 ≤ z) (hz2 : z ≤ 9223372036854775807) :
    Calls Try.prog 7 #[.int .i64 s, .int .i64 z] w fun e w' => e = .returned (.bool true) ∧ Below w.heap.size w w' := by
  go_enter Try.func7, Try.ntmps7
  go_wp2_with fail
  refine (woodOf_any w s z hs1 hs2 hz1 hz2).mono ?_
  rintro e1 w1 ⟨n, a, c, rfl, hn, hok, hps, hb1⟩
  obtain ⟨D, hD⟩ : ∃ D : Array Value, D = (n.row a c).toArray := ⟨_, rfl⟩
  have Ds := Lib.hid (show D.size = 41 by rw [hD, List.size_toArray]; exact row_len hn.vwf)
  have Do := Lib.hid (show D.all (·.oneCell') = true by rw [hD]; exact all_one (nrow_one _ _ _ _ _ _))
  have h41 := Lib.hid (row_len (a := a) (c := c) hn.vwf)
  have HD := Lib.hid hD
  have hpt : n.parts ≤ 1000000 := by omega
  have Hok := Lib.hid hok
  rw [← hD]
  have Hn1 := Lib.hid (hn.mono (G := fun b => b < w1.heap.size) (fun b _ hl => hl))
  have Hb1 := Lib.hid hb1
  clear hD hn hok hb1 hps
  go_wp2_with (refine wpList_store_fresh rfl 30 _ _ rfl D rfl rfl (by rw [Ds.out]; kernel_rfl) (by rw [Ds.out]; rfl) Do.out ?_)
  intro w2 hs2 hr2 hb2
  obtain ⟨B, hB⟩ : ∃ B, B = w1.heap.size := ⟨_, rfl⟩
  rw [← hB, HD.out] at hr2
  rw [← hB]
  have hB2 : B < w2.heap.size := lt_heap hr2
  have Hr2 := Lib.hid hr2
  have Hb2 := Lib.hid (below_on Hb1.out hb2)
  have Hn2 := Lib.hid ((Hn1.out.below hb2).mono (G := fun b => b < w2.heap.size) (fun b _ hl => hl))
  clear hr2 hb2 hB hs2 Hn1 Hb1 Ds Do HD
  go_wp2_with (refine wpList_load_midg (by rfl) 30 (.tmp 5) rfl B 0 rfl (n.row a c) _ (rangeAt_row Hr2.out) Try.underlying30 rfl (by rw [h41.out]; kernel_rfl) ?_)
  refine (of_good w2 _ 9 n a c Hn2.out (fun b hb => hb) hpt (Hok.out ⟨#[]⟩)).mono ?_
  rintro e3 w3 ⟨p, rfl, ht3, hb3⟩
  have Hb3 := Lib.hid (below_on Hb2.out hb3)
  have Hr3 := Lib.hid ((hb3.block B hB2).trans Hr2.out)
  have Hn3 := Lib.hid (Hn2.out.below hb3)
  have Ht3 := Lib.hid ht3
  have hB3 : B < w3.heap.size := lt_heap Hr3.out
  have hw23 := hb3.size
  clear ht3 hb3 Hr2 Hb2 Hn2
  go_wp2_with fail
  refine (known_ok w3).mono ?_
  rintro e4 w4 ⟨rfl, hb4⟩
  have Hb4 := Lib.hid (below_on Hb3.out hb4)
  have Hr4 := Lib.hid ((hb4.block B hB3).trans Hr3.out)
  have Hn4 := Lib.hid (Hn3.out.below hb4)
  have Ht4 := Lib.hid (Ht3.out.below hb4)
  have hB4 : B < w4.heap.size := lt_heap Hr4.out
  have hw34 := hb4.size
  clear hb4 Hr3 Hb3 Hn3 Ht3
  go_wp2_with fail
  refine (treeNode_okW _ _ w4 p n Ht4.out hpt).mono ?_
  rintro e5 w5 ⟨a5, c5, rfl, hn5, hb5⟩
  have Hb5 := Lib.hid (below_on Hb4.out hb5)
  have Hr5 := Lib.hid ((hb5.block B hB4).trans Hr4.out)
  have Hn5 := Lib.hid (Hn4.out.below hb5)
  have Ht5 := Lib.hid (Ht4.out.below hb5)
  have hB5 : B < w5.heap.size := lt_heap Hr5.out
  have hw45 := hb5.size
  have Hm5 := Lib.hid (hn5.mono (G := fun b => b < w5.heap.size) (fun b _ hl => hl))
  clear hb5 hn5 Hr4 Hb4 Hn4 Ht4
  go_wp2_with fail
  refine (of_good w5 _ _ (n.named ⟨#[]⟩) a5 c5 Hm5.out (fun b hb => hb) (Nat.le_trans (named_leW n) hpt) (Hok.out.named _ _)).mono ?_
  rintro e6 w6 ⟨u, rfl, ht6, hb6⟩
  have Hb6 := Lib.hid (below_on Hb5.out hb6)
  have Hr6 := Lib.hid ((hb6.block B hB5).trans Hr5.out)
  have Hn6 := Lib.hid (Hn5.out.below hb6)
  have Ht6 := Lib.hid (Ht5.out.below hb6)
  have Hu6 := Lib.hid ht6
  have hB6 : B < w6.heap.size := lt_heap Hr6.out
  have hw56 := hb6.size
  clear hb6 ht6 Hr5 Hb5 Hn5 Ht5 Hm5
  have Hal := Lib.hid (fun (w' : World) (hb : Below w6.heap.size w6 w') => alike_trueW _ _ 9 _ w' p n a c (Hn6.out.below hb) (fun b hl => Nat.lt_of_lt_of_le (show b < w6.heap.size by have hl' : b < w2.heap.size := hl; omega) hb.size) (Ht6.out.below hb) hpt)
  have Hc := Lib.hid (fun (w' : World) (hb : Below w6.heap.size w6 w') => (treeCount_ok _ _ w' p n (Ht6.out.below hb)).mono (R' := fun e w'' => e = .returned (.int .i64 (n.cnt : Nat)) ∧ Below w'.heap.size w' w'') (by rintro e w'' ⟨rfl, rfl⟩; exact ⟨rfl, Below.refl _ _⟩))
  have Hrc := Lib.hid (fun (w' : World) (hb : Below w6.heap.size w6 w') => refCount_ok _ 9 w' n a c (Hn6.out.below hb) hpt (kinded_of n ⟨#[]⟩ 0 (Hok.out _)))
  have Hd := Lib.hid (fun (w' : World) (hb : Below w6.heap.size w6 w') => (treeDepth_ok _ _ w' p n (Ht6.out.below hb)).mono (R' := fun e w'' => e = .returned (.int .i64 (n.dep : Nat)) ∧ Below w'.heap.size w' w'') (by rintro e w'' ⟨rfl, rfl⟩; exact ⟨rfl, Below.refl _ _⟩))
  have Hrd := Lib.hid (fun (w' : World) (hb : Below w6.heap.size w6 w') => refDepth_ok _ 9 w' n a c (Hn6.out.below hb) hpt)
  have Hsm := Lib.hid (fun (w' : World) (hb : Below w6.heap.size w6 w') => (same_ok false _ _ _ w' p u n (n.named ⟨#[]⟩) (Ht6.out.below hb).more (Hu6.out.below hb)).mono (R' := fun e w'' => e = .returned (.bool true) ∧ Below w'.heap.size w' w'') (by rintro e w'' ⟨rfl, hb2⟩; exact ⟨by rw [same_namedW], hb2⟩))
  have hkeep : ∀ w', Below w6.heap.size w6 w' → Below w6.heap.size w6 w' ∧ w'.rangeAt B 0 (n.row a c) := fun w' hb => ⟨hb, rangeAt_kept (rangeAt_row Hr6.out) (Upd.below hb (fun _ => False)) id⟩
  have HK := Lib.hid hkeep
  have inf41 : (Try.prog.info? 30).map (·.size) = some (n.row a c).length := by rw [h41.out]; kernel_rfl
  have und41 := Try.underlying30
  obtain ⟨cn, hcn⟩ : ∃ x, x = n.cnt := ⟨_, rfl⟩
  obtain ⟨dn, hdn⟩ : ∃ x, x = n.dep := ⟨_, rfl⟩
  rw [← hcn] at Hc Hrc
  rw [← hdn] at Hd Hrd
  clear hkeep hcn hdn
  go_wp2_with fail
  refine wp_region_noPanic ?_
  refine wp_region_held_drew (S := (fun w' => Below w6.heap.size w6 w' ∧ w'.rangeAt B 0 (n.row a c))) (by kernel_rfl) ?_ (fun hHeld => ?_)
  · (try dsimp only); (first | assumption | exact HK.out _ (Below.refl _ _) | exact HK.out _ (on_drew (Below.refl _ _)) | exact HK.out _ Hk1.out | exact HK.out _ (on_drew Hk1.out) | exact HK.out _ Hk2.out | exact HK.out _ (on_drew Hk2.out) | exact HK.out _ Hk3.out | exact HK.out _ (on_drew Hk3.out) | exact HK.out _ Hk4.out | exact HK.out _ (on_drew Hk4.out) | exact HK.out _ Hk5.out | exact HK.out _ (on_drew Hk5.out) | exact HK.out _ Hk6.out | exact HK.out _ (on_drew Hk6.out))
  refine wpAnyH_take (i := 0) (v := ?_) rfl (by kernel_rfl) (by kernel_rfl) (by kernel_rfl) (fun _ _ _ h => h) (Or.inl ⟨by rfl, ?_⟩) (by assumption) ?_
  rotate_left
  · intro w hSw; (try dsimp only at hSw); go_simp; (try with_reducible rfl)
  (try simp only [List.getElem_toArray, List.getElem_cons_succ, List.getElem_cons_zero, Act.put, List.setIfInBounds_toArray, List.set_cons_zero, List.set_cons_succ])
  refine' wpAnyH_take (i := 1) (v := _) rfl (by kernel_rfl) (by kernel_rfl) (by kernel_rfl) (fun _ _ _ h => h) (yieldsIf_load_mid (by rfl) _ _ rfl _ _ rfl _ _ ?hS1 ?hu1 ?hd1 ?hi1) (by assumption) ?rest1
  case hS1 => (intro w hSw; (try dsimp only at hSw); go_split_ands; assumption)
  case hu1 => assumption
  case hd1 => rfl
  case hi1 => first | assumption | (simp only [*]; done)
  (try simp only [List.getElem_toArray, List.getElem_cons_succ, List.getElem_cons_zero, Act.put, List.setIfInBounds_toArray, List.set_cons_zero, List.set_cons_succ])
  refine wpAnyH_ready (rs := [2]) (by kernel_rfl) (by simp) ?_
  refine AllReadyH.cons rfl (fun K hK => ?_) ?_
  rotate_left
  · exact AllReadyH.nil
  go_simp
  go_at_call 14; refine (Hal.out _ (by (first | exact Below.refl _ _ | exact on_drew (Below.refl _ _)))).mono ?_; rintro e wn1 ⟨rfl, hbn⟩; have Hk1 := Lib.hid (below_on (show Below w6.heap.size w6 _ by (first | exact Below.refl _ _ | exact on_drew (Below.refl _ _))) hbn); clear hbn
  (try go_wp2_with fail)
  refine hK.out _ _ ?_ (fun hHeld => ?_)
  · (try dsimp only); (first | assumption | exact HK.out _ (Below.refl _ _) | exact HK.out _ (on_drew (Below.refl _ _)) | exact HK.out _ Hk1.out | exact HK.out _ (on_drew Hk1.out) | exact HK.out _ Hk2.out | exact HK.out _ (on_drew Hk2.out) | exact HK.out _ Hk3.out | exact HK.out _ (on_drew Hk3.out) | exact HK.out _ Hk4.out | exact HK.out _ (on_drew Hk4.out) | exact HK.out _ Hk5.out | exact HK.out _ (on_drew Hk5.out) | exact HK.out _ Hk6.out | exact HK.out _ (on_drew Hk6.out))
  clear hK K
  (try simp only [List.getElem_toArray, List.getElem_cons_succ, List.getElem_cons_zero, Act.put, List.setIfInBounds_toArray, List.set_cons_zero, List.set_cons_succ])
  refine wpAnyH_take (i := 3) (v := ?_) rfl (by kernel_rfl) (by kernel_rfl) (by kernel_rfl) (fun _ _ _ h => h) (Or.inl ⟨by rfl, ?_⟩) (by assumption) ?_
  rotate_left
  · intro w hSw; (try dsimp only at hSw); go_simp; (try with_reducible rfl)
  (try simp only [List.getElem_toArray, List.getElem_cons_succ, List.getElem_cons_zero, Act.put, List.setIfInBounds_toArray, List.set_cons_zero, List.set_cons_succ])
  refine wpAnyH_take (i := 4) (v := ?_) rfl (by kernel_rfl) (by kernel_rfl) (by kernel_rfl) (fun _ _ _ h => h) (Or.inl ⟨by rfl, ?_⟩) (by assumption) ?_
  rotate_left
  · intro w hSw; (try dsimp only at hSw); go_simp; (try with_reducible rfl)
  (try simp only [List.getElem_toArray, List.getElem_cons_succ, List.getElem_cons_zero, Act.put, List.setIfInBounds_toArray, List.set_cons_zero, List.set_cons_succ])
  refine' wpAnyH_take (i := 6) (v := _) rfl (by kernel_rfl) (by kernel_rfl) (by kernel_rfl) (fun _ _ _ h => h) (yieldsIf_load_mid (by rfl) _ _ rfl _ _ rfl _ _ ?hS6 ?hu6 ?hd6 ?hi6) (by assumption) ?rest2
  case hS6 => (intro w hSw; (try dsimp only at hSw); go_split_ands; assumption)
  case hu6 => assumption
  case hd6 => rfl
  case hi6 => first | assumption | (simp only [*]; done)
  (try simp only [List.getElem_toArray, List.getElem_cons_succ, List.getElem_cons_zero, Act.put, List.setIfInBounds_toArray, List.set_cons_zero, List.set_cons_succ])
  refine wpAnyH_ready (rs := [5]) (by kernel_rfl) (by simp) ?_
  refine AllReadyH.cons rfl (fun K hK => ?_) ?_
  rotate_left
  · exact AllReadyH.nil
  go_simp
  go_at_call 29; refine (Hc.out _ (by (first | exact Hk1.out | exact on_drew Hk1.out))).mono ?_; rintro e wn2 ⟨rfl, hbn⟩; have Hk2 := Lib.hid (below_on (show Below w6.heap.size w6 _ by (first | exact Hk1.out | exact on_drew Hk1.out)) hbn); clear hbn
  (try go_wp2_with fail)
  refine hK.out _ _ ?_ (fun hHeld => ?_)
  · (try dsimp only); (first | assumption | exact HK.out _ (Below.refl _ _) | exact HK.out _ (on_drew (Below.refl _ _)) | exact HK.out _ Hk1.out | exact HK.out _ (on_drew Hk1.out) | exact HK.out _ Hk2.out | exact HK.out _ (on_drew Hk2.out) | exact HK.out _ Hk3.out | exact HK.out _ (on_drew Hk3.out) | exact HK.out _ Hk4.out | exact HK.out _ (on_drew Hk4.out) | exact HK.out _ Hk5.out | exact HK.out _ (on_drew Hk5.out) | exact HK.out _ Hk6.out | exact HK.out _ (on_drew Hk6.out))
  clear hK K
  (try simp only [List.getElem_toArray, List.getElem_cons_succ, List.getElem_cons_zero, Act.put, List.setIfInBounds_toArray, List.set_cons_zero, List.set_cons_succ])
  refine wpAnyH_ready (rs := [7]) (by kernel_rfl) (by simp) ?_
  refine AllReadyH.cons rfl (fun K hK => ?_) ?_
  rotate_left
  · exact AllReadyH.nil
  go_simp
  go_at_call 30; refine (Hrc.out _ (by (first | exact Hk2.out | exact on_drew Hk2.out))).mono ?_; rintro e wn3 ⟨rfl, hbn⟩; have Hk3 := Lib.hid (below_on (show Below w6.heap.size w6 _ by (first | exact Hk2.out | exact on_drew Hk2.out)) hbn); clear hbn
  (try go_wp2_with fail)
  refine hK.out _ _ ?_ (fun hHeld => ?_)
  · (try dsimp only); (first | assumption | exact HK.out _ (Below.refl _ _) | exact HK.out _ (on_drew (Below.refl _ _)) | exact HK.out _ Hk1.out | exact HK.out _ (on_drew Hk1.out) | exact HK.out _ Hk2.out | exact HK.out _ (on_drew Hk2.out) | exact HK.out _ Hk3.out | exact HK.out _ (on_drew Hk3.out) | exact HK.out _ Hk4.out | exact HK.out _ (on_drew Hk4.out) | exact HK.out _ Hk5.out | exact HK.out _ (on_drew Hk5.out) | exact HK.out _ Hk6.out | exact HK.out _ (on_drew Hk6.out))
  clear hK K
  (try simp only [List.getElem_toArray, List.getElem_cons_succ, List.getElem_cons_zero, Act.put, List.setIfInBounds_toArray, List.set_cons_zero, List.set_cons_succ])
  refine wpAnyH_take (i := 8) (v := ?_) rfl (by kernel_rfl) (by kernel_rfl) (by kernel_rfl) (fun _ _ _ h => h) (Or.inl ⟨by rfl, ?_⟩) (by assumption) ?_
  rotate_left
  · intro w hSw; (try dsimp only at hSw); go_simp; (try with_reducible rfl)
  (try simp only [List.getElem_toArray, List.getElem_cons_succ, List.getElem_cons_zero, Act.put, List.setIfInBounds_toArray, List.set_cons_zero, List.set_cons_succ])
  refine wpAnyH_take (i := 9) (v := ?_) rfl (by kernel_rfl) (by kernel_rfl) (by kernel_rfl) (fun _ _ _ h => h) (Or.inl ⟨by rfl, ?_⟩) (by assumption) ?_
  rotate_left
  · intro w hSw; (try dsimp only at hSw); go_simp; (try with_reducible rfl)
  (try simp only [List.getElem_toArray, List.getElem_cons_succ, List.getElem_cons_zero, Act.put, List.setIfInBounds_toArray, List.set_cons_zero, List.set_cons_succ])
  refine wpAnyH_take (i := 10) (v := ?_) rfl (by kernel_rfl) (by kernel_rfl) (by kernel_rfl) (fun _ _ _ h => h) (Or.inl ⟨by rfl, ?_⟩) (by assumption) ?_
  rotate_left
  · intro w hSw; (try dsimp only at hSw); go_simp; (try with_reducible rfl)
  (try simp only [List.getElem_toArray, List.getElem_cons_succ, List.getElem_cons_zero, Act.put, List.setIfInBounds_toArray, List.set_cons_zero, List.set_cons_succ])
  refine wpAnyH_take (i := 11) (v := ?_) rfl (by kernel_rfl) (by kernel_rfl) (by kernel_rfl) (fun _ _ _ h => h) (Or.inl ⟨by rfl, ?_⟩) (by assumption) ?_
  rotate_left
  · intro w hSw; (try dsimp only at hSw); go_simp; (try with_reducible rfl)
  (try simp only [List.getElem_toArray, List.getElem_cons_succ, List.getElem_cons_zero, Act.put, List.setIfInBounds_toArray, List.set_cons_zero, List.set_cons_succ])
  refine' wpAnyH_take (i := 13) (v := _) rfl (by kernel_rfl) (by kernel_rfl) (by kernel_rfl) (fun _ _ _ h => h) (yieldsIf_load_mid (by rfl) _ _ rfl _ _ rfl _ _ ?hS13 ?hu13 ?hd13 ?hi13) (by assumption) ?rest3
  case hS13 => (intro w hSw; (try dsimp only at hSw); go_split_ands; assumption)
  case hu13 => assumption
  case hd13 => rfl
  case hi13 => first | assumption | (simp only [*]; done)
  (try simp only [List.getElem_toArray, List.getElem_cons_succ, List.getElem_cons_zero, Act.put, List.setIfInBounds_toArray, List.set_cons_zero, List.set_cons_succ])
  refine wpAnyH_ready (rs := [12]) (by kernel_rfl) (by simp) ?_
  refine AllReadyH.cons rfl (fun K hK => ?_) ?_
  rotate_left
  · exact AllReadyH.nil
  go_simp
  go_at_call 49; refine (Hd.out _ (by (first | exact Hk3.out | exact on_drew Hk3.out))).mono ?_; rintro e wn4 ⟨rfl, hbn⟩; have Hk4 := Lib.hid (below_on (show Below w6.heap.size w6 _ by (first | exact Hk3.out | exact on_drew Hk3.out)) hbn); clear hbn
  (try go_wp2_with fail)
  refine hK.out _ _ ?_ (fun hHeld => ?_)
  · (try dsimp only); (first | assumption | exact HK.out _ (Below.refl _ _) | exact HK.out _ (on_drew (Below.refl _ _)) | exact HK.out _ Hk1.out | exact HK.out _ (on_drew Hk1.out) | exact HK.out _ Hk2.out | exact HK.out _ (on_drew Hk2.out) | exact HK.out _ Hk3.out | exact HK.out _ (on_drew Hk3.out) | exact HK.out _ Hk4.out | exact HK.out _ (on_drew Hk4.out) | exact HK.out _ Hk5.out | exact HK.out _ (on_drew Hk5.out) | exact HK.out _ Hk6.out | exact HK.out _ (on_drew Hk6.out))
  clear hK K
  (try simp only [List.getElem_toArray, List.getElem_cons_succ, List.getElem_cons_zero, Act.put, List.setIfInBounds_toArray, List.set_cons_zero, List.set_cons_succ])
  refine wpAnyH_ready (rs := [14]) (by kernel_rfl) (by simp) ?_
  refine AllReadyH.cons rfl (fun K hK => ?_) ?_
  rotate_left
  · exact AllReadyH.nil
  go_simp
  go_at_call 50; refine (Hrd.out _ (by (first | exact Hk4.out | exact on_drew Hk4.out))).mono ?_; rintro e wn5 ⟨rfl, hbn⟩; have Hk5 := Lib.hid (below_on (show Below w6.heap.size w6 _ by (first | exact Hk4.out | exact on_drew Hk4.out)) hbn); clear hbn
  (try go_wp2_with fail)
  refine hK.out _ _ ?_ (fun hHeld => ?_)
  · (try dsimp only); (first | assumption | exact HK.out _ (Below.refl _ _) | exact HK.out _ (on_drew (Below.refl _ _)) | exact HK.out _ Hk1.out | exact HK.out _ (on_drew Hk1.out) | exact HK.out _ Hk2.out | exact HK.out _ (on_drew Hk2.out) | exact HK.out _ Hk3.out | exact HK.out _ (on_drew Hk3.out) | exact HK.out _ Hk4.out | exact HK.out _ (on_drew Hk4.out) | exact HK.out _ Hk5.out | exact HK.out _ (on_drew Hk5.out) | exact HK.out _ Hk6.out | exact HK.out _ (on_drew Hk6.out))
  clear hK K
  (try simp only [List.getElem_toArray, List.getElem_cons_succ, List.getElem_cons_zero, Act.put, List.setIfInBounds_toArray, List.set_cons_zero, List.set_cons_succ])
  refine wpAnyH_take (i := 15) (v := ?_) rfl (by kernel_rfl) (by kernel_rfl) (by kernel_rfl) (fun _ _ _ h => h) (Or.inl ⟨by rfl, ?_⟩) (by assumption) ?_
  rotate_left
  · intro w hSw; (try dsimp only at hSw); go_simp; (try with_reducible rfl)
  (try simp only [List.getElem_toArray, List.getElem_cons_succ, List.getElem_cons_zero, Act.put, List.setIfInBounds_toArray, List.set_cons_zero, List.set_cons_succ])
  refine wpAnyH_take (i := 16) (v := ?_) rfl (by kernel_rfl) (by kernel_rfl) (by kernel_rfl) (fun _ _ _ h => h) (Or.inl ⟨by rfl, ?_⟩) (by assumption) ?_
  rotate_left
  · intro w hSw; (try dsimp only at hSw); go_simp; (try with_reducible rfl)
  (try simp only [List.getElem_toArray, List.getElem_cons_succ, List.getElem_cons_zero, Act.put, List.setIfInBounds_toArray, List.set_cons_zero, List.set_cons_succ])
  refine wpAnyH_take (i := 17) (v := ?_) rfl (by kernel_rfl) (by kernel_rfl) (by kernel_rfl) (fun _ _ _ h => h) (Or.inl ⟨by rfl, ?_⟩) (by assumption) ?_
  rotate_left
  · intro w hSw; (try dsimp only at hSw); go_simp; (try with_reducible rfl)
  (try simp only [List.getElem_toArray, List.getElem_cons_succ, List.getElem_cons_zero, Act.put, List.setIfInBounds_toArray, List.set_cons_zero, List.set_cons_succ])
  refine wpAnyH_take (i := 18) (v := ?_) rfl (by kernel_rfl) (by kernel_rfl) (by kernel_rfl) (fun _ _ _ h => h) (Or.inl ⟨by rfl, ?_⟩) (by assumption) ?_
  rotate_left
  · intro w hSw; (try dsimp only at hSw); go_simp; (try with_reducible rfl)
  (try simp only [List.getElem_toArray, List.getElem_cons_succ, List.getElem_cons_zero, Act.put, List.setIfInBounds_toArray, List.set_cons_zero, List.set_cons_succ])
  refine wpAnyH_take (i := 19) (v := ?_) rfl (by kernel_rfl) (by kernel_rfl) (by kernel_rfl) (fun _ _ _ h => h) (Or.inl ⟨by rfl, ?_⟩) (by assumption) ?_
  rotate_left
  · intro w hSw; (try dsimp only at hSw); go_simp; (try with_reducible rfl)
  (try simp only [List.getElem_toArray, List.getElem_cons_succ, List.getElem_cons_zero, Act.put, List.setIfInBounds_toArray, List.set_cons_zero, List.set_cons_succ])
  refine wpAnyH_take (i := 20) (v := ?_) rfl (by kernel_rfl) (by kernel_rfl) (by kernel_rfl) (fun _ _ _ h => h) (Or.inl ⟨by rfl, ?_⟩) (by assumption) ?_
  rotate_left
  · intro w hSw; (try dsimp only at hSw); go_simp; (try with_reducible rfl)
  (try simp only [List.getElem_toArray, List.getElem_cons_succ, List.getElem_cons_zero, Act.put, List.setIfInBounds_toArray, List.set_cons_zero, List.set_cons_succ])
  refine wpAnyH_take (i := 21) (v := ?_) rfl (by kernel_rfl) (by kernel_rfl) (by kernel_rfl) (fun _ _ _ h => h) (Or.inl ⟨by rfl, ?_⟩) (by assumption) ?_
  rotate_left
  · intro w hSw; (try dsimp only at hSw); go_simp; (try with_reducible rfl)
  (try simp only [List.getElem_toArray, List.getElem_cons_succ, List.getElem_cons_zero, Act.put, List.setIfInBounds_toArray, List.set_cons_zero, List.set_cons_succ])
  refine wpAnyH_take (i := 22) (v := ?_) rfl (by kernel_rfl) (by kernel_rfl) (by kernel_rfl) (fun _ _ _ h => h) (Or.inl ⟨by rfl, ?_⟩) (by assumption) ?_
  rotate_left
  · intro w hSw; (try dsimp only at hSw); go_simp; (try with_reducible rfl)
  (try simp only [List.getElem_toArray, List.getElem_cons_succ, List.getElem_cons_zero, Act.put, List.setIfInBounds_toArray, List.set_cons_zero, List.set_cons_succ])
  refine wpAnyH_take (i := 23) (v := ?_) rfl (by kernel_rfl) (by kernel_rfl) (by kernel_rfl) (fun _ _ _ h => h) (Or.inl ⟨by rfl, ?_⟩) (by assumption) ?_
  rotate_left
  · intro w hSw; (try dsimp only at hSw); go_simp; (try with_reducible rfl)
  (try simp only [List.getElem_toArray, List.getElem_cons_succ, List.getElem_cons_zero, Act.put, List.setIfInBounds_toArray, List.set_cons_zero, List.set_cons_succ])
  refine wpAnyH_ready (rs := [24]) (by kernel_rfl) (by simp) ?_
  refine AllReadyH.cons rfl (fun K hK => ?_) ?_
  rotate_left
  · exact AllReadyH.nil
  go_simp
  go_at_call 42; refine (Hsm.out _ (by (first | exact Hk5.out | exact on_drew Hk5.out))).mono ?_; rintro e wn6 ⟨rfl, hbn⟩; have Hk6 := Lib.hid (below_on (show Below w6.heap.size w6 _ by (first | exact Hk5.out | exact on_drew Hk5.out)) hbn); clear hbn
  (try go_wp2_with fail)
  refine hK.out _ _ ?_ (fun hHeld => ?_)
  · (try dsimp only); (first | assumption | exact HK.out _ (Below.refl _ _) | exact HK.out _ (on_drew (Below.refl _ _)) | exact HK.out _ Hk1.out | exact HK.out _ (on_drew Hk1.out) | exact HK.out _ Hk2.out | exact HK.out _ (on_drew Hk2.out) | exact HK.out _ Hk3.out | exact HK.out _ (on_drew Hk3.out) | exact HK.out _ Hk4.out | exact HK.out _ (on_drew Hk4.out) | exact HK.out _ Hk5.out | exact HK.out _ (on_drew Hk5.out) | exact HK.out _ Hk6.out | exact HK.out _ (on_drew Hk6.out))
  clear hK K
  (try simp only [List.getElem_toArray, List.getElem_cons_succ, List.getElem_cons_zero, Act.put, List.setIfInBounds_toArray, List.set_cons_zero, List.set_cons_succ])
  refine wpAnyH_take (i := 25) (v := ?_) rfl (by kernel_rfl) (by kernel_rfl) (by kernel_rfl) (fun _ _ _ h => h) (Or.inl ⟨by rfl, ?_⟩) (by assumption) ?_
  rotate_left
  · intro w hSw; (try dsimp only at hSw); go_simp; (try with_reducible rfl)
  (try simp only [List.getElem_toArray, List.getElem_cons_succ, List.getElem_cons_zero, Act.put, List.setIfInBounds_toArray, List.set_cons_zero, List.set_cons_succ])
  refine wpAnyH_take (i := 26) (v := ?_) rfl (by kernel_rfl) (by kernel_rfl) (by kernel_rfl) (fun _ _ _ h => h) (Or.inl ⟨by rfl, ?_⟩) (by assumption) ?_
  rotate_left
  · intro w hSw; (try dsimp only at hSw); go_simp; (try with_reducible rfl)
  (try simp only [List.getElem_toArray, List.getElem_cons_succ, List.getElem_cons_zero, Act.put, List.setIfInBounds_toArray, List.set_cons_zero, List.set_cons_succ])
  refine wpAnyH_done (by kernel_rfl) ?_ _
  refine NoPanic.normal ?_
  go_wp2_with fail
  go_ret
  exact ⟨rfl, below_on Hb6.out Hk6.out⟩
end Go.Proofs.Ythnbinlllmkabaa
