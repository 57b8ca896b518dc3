/- TreeWalks: the closures over Children. -/
import Derived.Test.YthnbinlllmkabaaWs
namespace Go.Proofs.Ythnbinlllmkabaa
open Go.RowKit Go.Shelf
set_option linter.unusedVariables false
set_option linter.unusedSimpArgs false

/-- The j-th child, as the closures read it. -/
structure KidAt (W : World) (b2 b12 gn on gk ok m cn c dt' q j : Nat) (s : ByteArray) (x : Nd) (FT : Nat → Prop) (d' : Nat) (a' : Option Addr) (c' : Nat) (FK : Nat → Prop) : Prop where
  n12 : W.cell? ⟨b12, 0, none⟩ = some (.slice (some ⟨gn, on, none⟩) m cn)
  str : W.cell? ⟨gn, on + j, none⟩ = some (.string s)
  kids : W.cell? ⟨b2, 40, none⟩ = some (.slice (some ⟨gk, ok, none⟩) m c)
  row : W.rangeAt gk (ok + j * 41) (x.row a' c')
  node : NodeIn W FK d' x a'
  tree : TreeAt W FT dt' q x
  lt : j < m
theorem KidAt.kept {S : Nat → Prop} {W W' : World} {b2 b12 gn on gk ok m cn c dt' q j : Nat} {s : ByteArray} {x : Nd} {FT : Nat → Prop} {d' : Nat} {a' : Option Addr} {c' : Nat} {FK : Nat → Prop} (h : KidAt W b2 b12 gn on gk ok m cn c dt' q j s x FT d' a' c' FK) (hu : Upd S W W')
    (hS : ¬ S b12 ∧ ¬ S gn ∧ ¬ S b2 ∧ ¬ S gk) (hT : ∀ b, FT b → ¬ S b) (hK : ∀ b, FK b → ¬ S b) : KidAt W' b2 b12 gn on gk ok m cn c dt' q j s x FT d' a' c' FK :=
  ⟨hu.cell h.n12 hS.1, hu.cell h.str hS.2.1, hu.cell h.kids hS.2.2.1, rangeAt_kept h.row hu hS.2.2.2, h.node.kept hu hK, TreeAt.kept hu hT _ _ _ h.tree, h.lt⟩
set_option maxHeartbeats 8000000 in
set_option maxRecDepth 100000 in
theorem walks21_ok (w2 : World) (b2 b12 gn on gk ok m cn c dt' q j : Nat) (s : ByteArray) (x : Nd) (FT : Nat → Prop) (d' : Nat) (a' : Option Addr) (c' : Nat) (FK : Nat → Prop) (bok bk : Nat) (hk : KidAt w2 b2 b12 gn on gk ok m cn c dt' q j s x FT d' a' c' FK) (hm : m ≤ 1000000)
    (hok : w2.heap[bok]? = some (.cells #[.bool true] 4 (0, 0))) (hi : w2.heap[bk]? = some (.cells #[.int .i64 (j : Nat)] 3 (0, 0))) (hne : bk ≠ bok ∧ b12 ≠ bok ∧ gn ≠ bok ∧ b2 ≠ bok ∧ gk ≠ bok) :
    Calls Try.prog 27 (#[.string s, .pointer (some ⟨q, 0, none⟩)] ++ #[.pointer (some ⟨bok, 0, none⟩), .pointer (some ⟨bk, 0, none⟩), .pointer (some ⟨b12, 0, none⟩), .pointer (some ⟨b2, 0, none⟩)]) w2 fun e W' =>
      e = .returned (.bool true) ∧ W'.heap[bok]? = some (.cells #[.bool true] 4 (0, 0)) ∧ W'.heap[bk]? = some (.cells #[.int .i64 ((j + 1 : Nat) : Int)] 3 (0, 0)) ∧ Upd (fun b => b = bok ∨ b = bk) w2 W' := by
  have hvw := hk.node.vwf
  have hjm := hk.lt
  have hokl := lt_heap hok
  have Htx := Lib.hid hk.tree
  have hz := fun w => eq_value x.v x.v hvw.1 hvw.1 w
  have inf35 : (Try.prog.info? 24).map (·.size) = some x.v.cells.length := by rw [x.v.cells_length hvw]; kernel_rfl
  have und35 := Try.underlying24
  have HS0 := Lib.hid (And.intro hok hi)
  have HK0 := Lib.hid (And.intro hk.n12 (And.intro hk.str (And.intro hk.kids (nrow_at hvw hk.row).2.1)))
  have HS := Lib.hid (show ∀ w', Below w2.heap.size w2 w' → w'.cell? ⟨bok, 0, none⟩ = some (.bool true) ∧ w'.frozen? ⟨bok, 0, none⟩ = false ∧ w'.cell? ⟨bk, 0, none⟩ = some (.int .i64 (j : Nat)) ∧ w'.cell? ⟨b12, 0, none⟩ = some (.slice (some ⟨gn, on, none⟩) m cn) ∧ w'.cell? ⟨gn, on + j, none⟩ = some (.string s) ∧ w'.cell? ⟨b2, 40, none⟩ = some (.slice (some ⟨gk, ok, none⟩) m c) ∧ w'.rangeAt gk (ok + j * 41 + 1) x.v.cells from fun w' hb => by
    have hu := Upd.below hb (fun _ => False)
    obtain ⟨q1, q2⟩ := HS0.out
    obtain ⟨q3, q4, q5, q6⟩ := HK0.out
    exact ⟨cell1 (hu.at_ q1 id), frozen_of_row _ _ _ _ _ (hu.at_ q1 id), cell1 (hu.at_ q2 id), hu.cell q3 id, hu.cell q4 id, hu.cell q5 id, rangeAt_kept q6 hu id⟩)
  have i1 : (0 : Int) ≤ (j : Int) := by omega
  have i3 : (j : Int) < (m : Int) := by omega
  clear hk hok hi
  go_enter Try.func27, Try.ntmps27
  go_wp2_with fail
  refine wp_region_noPanic ?_
  refine wp_region_held_drew (S := (fun w' => w'.cell? ⟨bok, 0, none⟩ = some (.bool true) ∧ w'.frozen? ⟨bok, 0, none⟩ = false ∧ w'.cell? ⟨bk, 0, none⟩ = some (.int .i64 (j : Nat)) ∧ w'.cell? ⟨b12, 0, none⟩ = some (.slice (some ⟨gn, on, none⟩) m cn) ∧ w'.cell? ⟨gn, on + j, none⟩ = some (.string s) ∧ w'.cell? ⟨b2, 40, none⟩ = some (.slice (some ⟨gk, ok, none⟩) m c) ∧ w'.rangeAt gk (ok + j * 41 + 1) x.v.cells)) (by kernel_rfl) ?_ (fun hHeld => ?_)
  · (try dsimp only); (first | exact HS.out _ Hk3.out | exact HS.out _ Hk2.out | exact HS.out _ Hk1.out | exact HS.out _ (on_drew (Below.refl _ _)) | exact HS.out _ (Below.refl _ _))
  refine wpAnyH_take (i := 0) (v := ?_) rfl (by kernel_rfl) (by kernel_rfl) (by kernel_rfl) (fun _ _ _ h => h) (Or.inl ⟨by rfl, ?_⟩) (by assumption) ?_
  rotate_left
  · intro w hSw; (try dsimp only at hSw); go_simp; (try with_reducible rfl)
  (try simp only [List.getElem_toArray, List.getElem_cons_succ, List.getElem_cons_zero, Act.put, List.setIfInBounds_toArray, List.set_cons_zero, List.set_cons_succ])
  refine wpAnyH_take (i := 1) (v := ?_) rfl (by kernel_rfl) (by kernel_rfl) (by kernel_rfl) (fun _ _ _ h => h) (Or.inl ⟨by rfl, ?_⟩) (by assumption) ?_
  rotate_left
  · intro w hSw; (try dsimp only at hSw); go_simp; (try with_reducible rfl)
  (try simp only [List.getElem_toArray, List.getElem_cons_succ, List.getElem_cons_zero, Act.put, List.setIfInBounds_toArray, List.set_cons_zero, List.set_cons_succ])
  refine wpAnyH_take (i := 2) (v := ?_) rfl (by kernel_rfl) (by kernel_rfl) (by kernel_rfl) (fun _ _ _ h => h) (Or.inl ⟨by rfl, ?_⟩) (by assumption) ?_
  rotate_left
  · intro w hSw; (try dsimp only at hSw); go_simp; (try with_reducible rfl)
  (try simp only [List.getElem_toArray, List.getElem_cons_succ, List.getElem_cons_zero, Act.put, List.setIfInBounds_toArray, List.set_cons_zero, List.set_cons_succ])
  refine wpAnyH_take (i := 3) (v := ?_) rfl (by kernel_rfl) (by kernel_rfl) (by kernel_rfl) (fun _ _ _ h => h) (Or.inl ⟨by rfl, ?_⟩) (by assumption) ?_
  rotate_left
  · intro w hSw; (try dsimp only at hSw); go_simp; (try with_reducible rfl)
  (try simp only [List.getElem_toArray, List.getElem_cons_succ, List.getElem_cons_zero, Act.put, List.setIfInBounds_toArray, List.set_cons_zero, List.set_cons_succ])
  refine wpAnyH_take (i := 4) (v := ?_) rfl (by kernel_rfl) (by kernel_rfl) (by kernel_rfl) (fun _ _ _ h => h) (Or.inl ⟨by rfl, ?_⟩) (by assumption) ?_
  rotate_left
  · intro w hSw; (try dsimp only at hSw); go_simp; (try with_reducible rfl)
  (try simp only [List.getElem_toArray, List.getElem_cons_succ, List.getElem_cons_zero, Act.put, List.setIfInBounds_toArray, List.set_cons_zero, List.set_cons_succ])
  refine wpAnyH_take (i := 5) (v := ?_) rfl (by kernel_rfl) (by kernel_rfl) (by kernel_rfl) (fun _ _ _ h => h) (Or.inl ⟨by rfl, ?_⟩) (by assumption) ?_
  rotate_left
  · intro w hSw; (try dsimp only at hSw); go_simp; (try with_reducible rfl)
  (try simp only [List.getElem_toArray, List.getElem_cons_succ, List.getElem_cons_zero, Act.put, List.setIfInBounds_toArray, List.set_cons_zero, List.set_cons_succ])
  refine wpAnyH_take (i := 6) (v := ?_) rfl (by kernel_rfl) (by kernel_rfl) (by kernel_rfl) (fun _ _ _ h => h) (Or.inl ⟨by rfl, ?_⟩) (by assumption) ?_
  rotate_left
  · intro w hSw; (try dsimp only at hSw); go_simp; (try with_reducible rfl)
  (try simp only [List.getElem_toArray, List.getElem_cons_succ, List.getElem_cons_zero, Act.put, List.setIfInBounds_toArray, List.set_cons_zero, List.set_cons_succ])
  refine wpAnyH_take (i := 7) (v := ?_) rfl (by kernel_rfl) (by kernel_rfl) (by kernel_rfl) (fun _ _ _ h => h) (Or.inl ⟨by rfl, ?_⟩) (by assumption) ?_
  rotate_left
  · intro w hSw; (try dsimp only at hSw); go_simp; (try with_reducible rfl)
  (try simp only [List.getElem_toArray, List.getElem_cons_succ, List.getElem_cons_zero, Act.put, List.setIfInBounds_toArray, List.set_cons_zero, List.set_cons_succ])
  refine wpAnyH_take (i := 8) (v := ?_) rfl (by kernel_rfl) (by kernel_rfl) (by kernel_rfl) (fun _ _ _ h => h) (Or.inl ⟨by rfl, ?_⟩) (by assumption) ?_
  rotate_left
  · intro w hSw; (try dsimp only at hSw); go_simp; (try with_reducible rfl)
  (try simp only [List.getElem_toArray, List.getElem_cons_succ, List.getElem_cons_zero, Act.put, List.setIfInBounds_toArray, List.set_cons_zero, List.set_cons_succ])
  refine wpAnyH_take (i := 9) (v := ?_) rfl (by kernel_rfl) (by kernel_rfl) (by kernel_rfl) (fun _ _ _ h => h) (Or.inl ⟨by rfl, ?_⟩) (by assumption) ?_
  rotate_left
  · intro w hSw; (try dsimp only at hSw); go_simp; (try with_reducible rfl)
  (try simp only [List.getElem_toArray, List.getElem_cons_succ, List.getElem_cons_zero, Act.put, List.setIfInBounds_toArray, List.set_cons_zero, List.set_cons_succ])
  refine wpAnyH_take (i := 10) (v := ?_) rfl (by kernel_rfl) (by kernel_rfl) (by kernel_rfl) (fun _ _ _ h => h) (Or.inl ⟨by rfl, ?_⟩) (by assumption) ?_
  rotate_left
  · intro w hSw; (try dsimp only at hSw); go_simp; (try with_reducible rfl)
  (try simp only [List.getElem_toArray, List.getElem_cons_succ, List.getElem_cons_zero, Act.put, List.setIfInBounds_toArray, List.set_cons_zero, List.set_cons_succ])
  refine wpAnyH_take (i := 11) (v := ?_) rfl (by kernel_rfl) (by kernel_rfl) (by kernel_rfl) (fun _ _ _ h => h) (Or.inl ⟨by rfl, ?_⟩) (by assumption) ?_
  rotate_left
  · intro w hSw; (try dsimp only at hSw); go_simp; (try with_reducible rfl)
  (try simp only [List.getElem_toArray, List.getElem_cons_succ, List.getElem_cons_zero, Act.put, List.setIfInBounds_toArray, List.set_cons_zero, List.set_cons_succ])
  refine wpAnyH_take (i := 12) (v := ?_) rfl (by kernel_rfl) (by kernel_rfl) (by kernel_rfl) (fun _ _ _ h => h) (Or.inl ⟨by rfl, ?_⟩) (by assumption) ?_
  rotate_left
  · intro w hSw; (try dsimp only at hSw); go_simp; (try with_reducible rfl)
  (try simp only [List.getElem_toArray, List.getElem_cons_succ, List.getElem_cons_zero, Act.put, List.setIfInBounds_toArray, List.set_cons_zero, List.set_cons_succ])
  refine wpAnyH_take (i := 13) (v := ?_) rfl (by kernel_rfl) (by kernel_rfl) (by kernel_rfl) (fun _ _ _ h => h) (Or.inl ⟨by rfl, ?_⟩) (by assumption) ?_
  rotate_left
  · intro w hSw; (try dsimp only at hSw); go_simp; (try with_reducible rfl)
  (try simp only [List.getElem_toArray, List.getElem_cons_succ, List.getElem_cons_zero, Act.put, List.setIfInBounds_toArray, List.set_cons_zero, List.set_cons_succ])
  refine wpAnyH_take (i := 14) (v := ?_) rfl (by kernel_rfl) (by kernel_rfl) (by kernel_rfl) (fun _ _ _ h => h) (Or.inl ⟨by rfl, ?_⟩) (by assumption) ?_
  rotate_left
  · intro w hSw; (try dsimp only at hSw); go_simp; (try with_reducible rfl)
  (try simp only [List.getElem_toArray, List.getElem_cons_succ, List.getElem_cons_zero, Act.put, List.setIfInBounds_toArray, List.set_cons_zero, List.set_cons_succ])
  refine wpAnyH_take (i := 15) (v := ?_) rfl (by kernel_rfl) (by kernel_rfl) (by kernel_rfl) (fun _ _ _ h => h) (Or.inl ⟨by rfl, ?_⟩) (by assumption) ?_
  rotate_left
  · intro w hSw; (try dsimp only at hSw); go_simp; (try with_reducible rfl)
  (try simp only [List.getElem_toArray, List.getElem_cons_succ, List.getElem_cons_zero, Act.put, List.setIfInBounds_toArray, List.set_cons_zero, List.set_cons_succ])
  refine wpAnyH_take (i := 16) (v := ?_) rfl (by kernel_rfl) (by kernel_rfl) (by kernel_rfl) (fun _ _ _ h => h) (Or.inl ⟨by rfl, ?_⟩) (by assumption) ?_
  rotate_left
  · intro w hSw; (try dsimp only at hSw); go_simp; (try with_reducible rfl)
  (try simp only [List.getElem_toArray, List.getElem_cons_succ, List.getElem_cons_zero, Act.put, List.setIfInBounds_toArray, List.set_cons_zero, List.set_cons_succ])
  refine wpAnyH_take (i := 17) (v := ?_) rfl (by kernel_rfl) (by kernel_rfl) (by kernel_rfl) (fun _ _ _ h => h) (Or.inl ⟨by rfl, ?_⟩) (by assumption) ?_
  rotate_left
  · intro w hSw; (try dsimp only at hSw); go_simp; (try with_reducible rfl)
  (try simp only [List.getElem_toArray, List.getElem_cons_succ, List.getElem_cons_zero, Act.put, List.setIfInBounds_toArray, List.set_cons_zero, List.set_cons_succ])
  refine wpAnyH_take (i := 18) (v := ?_) rfl (by kernel_rfl) (by kernel_rfl) (by kernel_rfl) (fun _ _ _ h => h) (Or.inl ⟨by rfl, ?_⟩) (by assumption) ?_
  rotate_left
  · intro w hSw; (try dsimp only at hSw); go_simp; (try with_reducible rfl)
  (try simp only [List.getElem_toArray, List.getElem_cons_succ, List.getElem_cons_zero, Act.put, List.setIfInBounds_toArray, List.set_cons_zero, List.set_cons_succ])
  refine wpAnyH_take (i := 19) (v := ?_) rfl (by kernel_rfl) (by kernel_rfl) (by kernel_rfl) (fun _ _ _ h => h) (Or.inl ⟨by rfl, ?_⟩) (by assumption) ?_
  rotate_left
  · intro w hSw; (try dsimp only at hSw); go_simp; (try with_reducible rfl)
  (try simp only [List.getElem_toArray, List.getElem_cons_succ, List.getElem_cons_zero, Act.put, List.setIfInBounds_toArray, List.set_cons_zero, List.set_cons_succ])
  refine wpAnyH_take (i := 20) (v := ?_) rfl (by kernel_rfl) (by kernel_rfl) (by kernel_rfl) (fun _ _ _ h => h) (Or.inl ⟨by rfl, ?_⟩) (by assumption) ?_
  rotate_left
  · intro w hSw; (try dsimp only at hSw); go_simp; (try with_reducible rfl)
  (try simp only [List.getElem_toArray, List.getElem_cons_succ, List.getElem_cons_zero, Act.put, List.setIfInBounds_toArray, List.set_cons_zero, List.set_cons_succ])
  refine wpAnyH_take (i := 22) (v := ?_) rfl (by kernel_rfl) (by kernel_rfl) (by kernel_rfl) (fun _ _ _ h => h) (Or.inl ⟨by rfl, ?_⟩) (by assumption) ?_
  rotate_left
  · intro w hSw; (try dsimp only at hSw); go_simp; (try with_reducible rfl)
  (try simp only [List.getElem_toArray, List.getElem_cons_succ, List.getElem_cons_zero, Act.put, List.setIfInBounds_toArray, List.set_cons_zero, List.set_cons_succ])
  refine wpAnyH_take (i := 23) (v := ?_) rfl (by kernel_rfl) (by kernel_rfl) (by kernel_rfl) (fun _ _ _ h => h) (Or.inl ⟨by rfl, ?_⟩) (by assumption) ?_
  rotate_left
  · intro w hSw; (try dsimp only at hSw); go_simp; (try with_reducible rfl)
  (try simp only [List.getElem_toArray, List.getElem_cons_succ, List.getElem_cons_zero, Act.put, List.setIfInBounds_toArray, List.set_cons_zero, List.set_cons_succ])
  refine wpAnyH_take (i := 24) (v := ?_) rfl (by kernel_rfl) (by kernel_rfl) (by kernel_rfl) (fun _ _ _ h => h) (Or.inl ⟨by rfl, ?_⟩) (by assumption) ?_
  rotate_left
  · intro w hSw; (try dsimp only at hSw); go_simp; (try with_reducible rfl)
  (try simp only [List.getElem_toArray, List.getElem_cons_succ, List.getElem_cons_zero, Act.put, List.setIfInBounds_toArray, List.set_cons_zero, List.set_cons_succ])
  refine wpAnyH_take (i := 25) (v := ?_) rfl (by kernel_rfl) (by kernel_rfl) (by kernel_rfl) (fun _ _ _ h => h) (Or.inl ⟨by rfl, ?_⟩) (by assumption) ?_
  rotate_left
  · intro w hSw; (try dsimp only at hSw); go_simp; (try with_reducible rfl)
  (try simp only [List.getElem_toArray, List.getElem_cons_succ, List.getElem_cons_zero, Act.put, List.setIfInBounds_toArray, List.set_cons_zero, List.set_cons_succ])
  refine wpAnyH_take (i := 26) (v := ?_) rfl (by kernel_rfl) (by kernel_rfl) (by kernel_rfl) (fun _ _ _ h => h) (Or.inl ⟨by rfl, ?_⟩) (by assumption) ?_
  rotate_left
  · intro w hSw; (try dsimp only at hSw); go_simp; (try with_reducible rfl)
  (try simp only [List.getElem_toArray, List.getElem_cons_succ, List.getElem_cons_zero, Act.put, List.setIfInBounds_toArray, List.set_cons_zero, List.set_cons_succ])
  refine' wpAnyH_take (i := 27) (v := _) rfl (by kernel_rfl) (by kernel_rfl) (by kernel_rfl) (fun _ _ _ h => h) (yieldsIf_load_mid (by rfl) _ _ rfl _ _ rfl _ _ ?hS27 ?hu27 ?hd27 ?hi27) (by assumption) ?rest1
  case hS27 => (intro w hSw; (try dsimp only at hSw); go_split_ands; assumption)
  case hu27 => assumption
  case hd27 => rfl
  case hi27 => first | assumption | (simp only [*]; done)
  (try simp only [List.getElem_toArray, List.getElem_cons_succ, List.getElem_cons_zero, Act.put, List.setIfInBounds_toArray, List.set_cons_zero, List.set_cons_succ])
  refine wpAnyH_ready (rs := [21]) (by kernel_rfl) (by simp) ?_
  refine AllReadyH.cons rfl (fun K hK => ?_) ?_
  rotate_left
  · exact AllReadyH.nil
  go_simp
  go_at_call 28
  refine (treeValue_ok _ dt' _ q x (Htx.out.below (show Below w2.heap.size w2 w2.drew from on_drew (Below.refl _ _)))).mono ?_
  rintro e wn1 ⟨rfl, hbn⟩
  have Hk1 := Lib.hid (below_on (show Below w2.heap.size w2 w2.drew from on_drew (Below.refl _ _)) hbn)
  clear hbn
  (try go_wp2_with fail)
  refine hK.out _ _ ?_ (fun hHeld => ?_)
  · (try dsimp only); (first | exact HS.out _ Hk3.out | exact HS.out _ Hk2.out | exact HS.out _ Hk1.out | exact HS.out _ (on_drew (Below.refl _ _)) | exact HS.out _ (Below.refl _ _))
  clear hK K
  (try simp only [List.getElem_toArray, List.getElem_cons_succ, List.getElem_cons_zero, Act.put, List.setIfInBounds_toArray, List.set_cons_zero, List.set_cons_succ])
  refine wpAnyH_take (i := 28) (v := ?_) rfl (by kernel_rfl) (by kernel_rfl) (by kernel_rfl) (fun _ _ _ h => h) (Or.inl ⟨by rfl, ?_⟩) (by assumption) ?_
  rotate_left
  · intro w hSw; (try dsimp only at hSw); go_simp; (try with_reducible rfl)
  (try simp only [List.getElem_toArray, List.getElem_cons_succ, List.getElem_cons_zero, Act.put, List.setIfInBounds_toArray, List.set_cons_zero, List.set_cons_succ])
  refine wpAnyH_take (i := 29) (v := ?_) rfl (by kernel_rfl) (by kernel_rfl) (by kernel_rfl) (fun _ _ _ h => h) (Or.inl ⟨by rfl, ?_⟩) (by assumption) ?_
  rotate_left
  · intro w hSw; (try dsimp only at hSw); go_simp; (try with_reducible rfl)
  (try simp only [List.getElem_toArray, List.getElem_cons_succ, List.getElem_cons_zero, Act.put, List.setIfInBounds_toArray, List.set_cons_zero, List.set_cons_succ])
  refine wpAnyH_ready (rs := [30]) (by kernel_rfl) (by simp) ?_
  refine AllReadyH.cons rfl (fun K hK => ?_) ?_
  rotate_left
  · exact AllReadyH.nil
  obtain ⟨e1, e2, _⟩ := HS.out _ Hk1.out
  go_simp
  have hu9 : Upd (fun b => b = bok) wn1 (wn1.setCell ⟨bok, 0, none⟩ (.bool true)) := (Upd.refl _ _).setCell _ _ (fun _ => rfl)
  have hset := heap_setCell_same wn1 bok 0 _ _ (.bool true) ((Hk1.out.block bok hokl).trans HS0.out.1)
  simp at hset
  refine hK.out _ _ ?_ (fun hHeld => ?_)
  · obtain ⟨q1, q2, q3, q4, q5, q6, q7⟩ := HS.out _ Hk1.out
    exact ⟨cell1 hset, frozen_of_row _ _ _ _ _ hset, hu9.cell q3 hne.1, hu9.cell q4 hne.2.1, hu9.cell q5 hne.2.2.1, hu9.cell q6 hne.2.2.2.1, rangeAt_kept q7 hu9 hne.2.2.2.2⟩
  clear hK K
  (try simp only [List.getElem_toArray, List.getElem_cons_succ, List.getElem_cons_zero, Act.put, List.setIfInBounds_toArray, List.set_cons_zero, List.set_cons_succ])
  refine wpAnyH_done (by kernel_rfl) ?_ _
  refine NoPanic.normal ?_
  have hi9 := hu9.at_ ((Hk1.out.block bk (lt_heap HS0.out.2)).trans HS0.out.2) hne.1
  have Hu9 := Lib.hid (show Upd (fun b => b = bok ∨ b = bk) w2 (wn1.setCell ⟨bok, 0, none⟩ (.bool true)) from (Upd.below Hk1.out _).then hu9 (fun k _ hk => .inl hk))
  generalize wn1.setCell ⟨bok, 0, none⟩ (.bool true) = w9 at hset hi9 hHeld Hu9 ⊢
  have f0 := cell1 hi9
  have z0 := frozen_of_row _ bk 0 _ _ hi9
  have hu10 : Upd (fun b => b = bk) w9 (w9.setCell ⟨bk, 0, none⟩ (.int .i64 ((j : Int) + 1))) := (Upd.refl _ _).setCell _ _ (fun _ => rfl)
  have hset2 := heap_setCell_same w9 bk 0 _ _ (.int .i64 ((j : Int) + 1)) hi9
  simp at hset2
  have hok2 := hu10.at_ hset (fun e => hne.1 e.symm)
  have f1 := cell1 hok2
  have ew : IntKind.i64.wrap ((j : Int) + 1) = (j : Int) + 1 := IntWalk.i64_in _ (by omega)
  have Hset2 := Lib.hid hset2
  have Hok2 := Lib.hid hok2
  have Hu10 := Lib.hid (Hu9.out.then hu10 (fun k _ hk => .inr hk))
  clear hset2 hok2 hu10 hset hi9 hHeld
  go_wp2
  go_ret
  exact ⟨rfl, Hok2.out, by rw [show ((j + 1 : Nat) : Int) = (j : Int) + 1 by omega]; exact Hset2.out, Hu10.out⟩
end Go.Proofs.Ythnbinlllmkabaa
