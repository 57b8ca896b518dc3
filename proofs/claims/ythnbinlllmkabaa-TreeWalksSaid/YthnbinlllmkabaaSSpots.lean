/- The law's sameSpots. -/
import Derived.Test.YthnbinlllmkabaaSpots2
import Derived.Deep.RegionHeld3
namespace Go.Proofs.Ythnbinlllmkabaa
open Go.RowKit Go.Shelf
set_option linter.unusedVariables false
set_option linter.unusedSimpArgs false

theorem flat_at {α : Type} (f : α → List Value) (c : Nat) : ∀ (l : List α) (i : Nat) (x : α) (j : Nat), (∀ y ∈ l, (f y).length = c) → l[i]? = some x → j < c → (l.flatMap f)[i * c + j]? = (f x)[j]?
  | [], i, x, j, _, h, _ => by simp at h
  | y :: l, 0, x, j, hl, h, hj => by
    simp at h
    subst h
    rw [List.flatMap_cons, Nat.zero_mul, Nat.zero_add, List.getElem?_append_left (by rw [hl y (by simp)]; exact hj)]
  | y :: l, i + 1, x, j, hl, h, hj => by
    simp at h
    have hm : (i + 1) * c = i * c + c := by rw [Nat.add_mul, Nat.one_mul]
    rw [List.flatMap_cons, List.getElem?_append_right (by rw [hl y (by simp)]; omega), hl y (by simp), show (i + 1) * c + j - c = i * c + j by omega]
    exact flat_at f c l i x j (fun z hz => hl z (by simp [hz])) h hj
theorem flat_len {α : Type} (f : α → List Value) (c : Nat) : ∀ (l : List α), (∀ y ∈ l, (f y).length = c) → (l.flatMap f).length = l.length * c
  | [], _ => by simp
  | y :: l, h => by rw [List.flatMap_cons, List.length_append, h y (by simp), flat_len f c l (fun z hz => h z (by simp [hz])), List.length_cons, Nat.succ_mul, Nat.add_comm]
/-- The cells of the i-th of the collected. -/
theorem prows_cell {w : World} {a : Option Addr} {k c : Nat} {L : List (ByteArray × Vl × (Mk × Mk))} (h : Sl w 36 (.slice a k c) k (prows L)) (hw : ∀ x ∈ L, x.2.1.wf) {i : Nat} {x : ByteArray × Vl × (Mk × Mk)} (hx : L[i]? = some x) :
    ∃ g o, a = some ⟨g, o, none⟩ ∧ g < w.heap.size ∧ w.cell? ⟨g, o + i * 36, none⟩ = some (.string x.1) ∧ w.rangeAt g (o + i * 36 + 1) x.2.1.cells := by
  have hl := flat_len prow 36 L (fun y hy => prow_length (hw y hy))
  have hi := (List.getElem?_eq_some_iff.1 hx).1
  obtain ⟨g, o, he, hg, hc⟩ := h.open_ (by rw [prows, hl]; omega)
  have hxw := hw x (List.mem_of_getElem? hx)
  have hat : ∀ j, j < 36 → ∀ u, (prow x)[j]? = some u → w.cell? ⟨g, o + (i * 36 + j), none⟩ = some u := fun j hj u hu => hc (i * 36 + j) u (by rw [prows, flat_at prow 36 L i x j (fun y hy => prow_length (hw y hy)) hx hj]; exact hu)
  refine ⟨g, o, he, hg, hat 0 (by omega) _ rfl, fun j u hj => ?_⟩
  have hj35 : j < 35 := by have := (List.getElem?_eq_some_iff.1 hj).1; rwa [x.2.1.cells_length hxw] at this
  have := hat (j + 1) (by omega) u (by show (Value.string x.1 :: x.2.1.cells)[j + 1]? = some u; rw [List.getElem?_cons_succ]; exact hj)
  rw [show o + i * 36 + 1 + j = o + (i * 36 + (j + 1)) by omega]
  exact this
theorem srows_cell {w : World} {a : Option Addr} {k c : Nat} {L : List (ByteArray × Vl × (Mk × Mk))} (h : Sl w 40 (.slice a k c) k (srows L)) (hw : ∀ x ∈ L, x.2.1.wf) {i : Nat} {x : ByteArray × Vl × (Mk × Mk)} (hx : L[i]? = some x) :
    ∃ g o, a = some ⟨g, o, none⟩ ∧ g < w.heap.size ∧ w.cell? ⟨g, o + i * 40, none⟩ = some (.string x.1) ∧ w.rangeAt g (o + i * 40 + 1) x.2.1.cells := by
  have hl := flat_len srow 40 L (fun y hy => srow_length (hw y hy))
  have hi := (List.getElem?_eq_some_iff.1 hx).1
  obtain ⟨g, o, he, hg, hc⟩ := h.open_ (by rw [srows, hl]; omega)
  have hxw := hw x (List.mem_of_getElem? hx)
  have hat : ∀ j, j < 40 → ∀ u, (srow x)[j]? = some u → w.cell? ⟨g, o + (i * 40 + j), none⟩ = some u := fun j hj u hu => hc (i * 40 + j) u (by rw [srows, flat_at srow 40 L i x j (fun y hy => srow_length (hw y hy)) hx hj]; exact hu)
  refine ⟨g, o, he, hg, hat 0 (by omega) _ rfl, fun j u hj => ?_⟩
  have hj35 : j < 35 := by have := (List.getElem?_eq_some_iff.1 hj).1; rwa [x.2.1.cells_length hxw] at this
  have := hat (j + 1) (by omega) u (by show (Value.string x.1 :: (x.2.1.cells ++ mcells x.2.2))[j + 1]? = some u; rw [List.getElem?_cons_succ, List.getElem?_append_left (by rw [x.2.1.cells_length hxw]; exact hj35)]; exact hj)
  rw [show o + i * 40 + 1 + j = o + (i * 40 + (j + 1)) by omega]
  exact this
set_option maxHeartbeats 4000000 in
set_option maxRecDepth 100000 in
theorem sameSpots_ok (w : World) (a1 a2 : Option Addr) (c1 c2 m M : Nat) (L : List (ByteArray × Vl × (Mk × Mk))) (h1 : Sl w 36 (.slice a1 m c1) m (prows (L.take m))) (h2 : Sl w 40 (.slice a2 M c2) M (srows L)) (hM : L.length = M) (hm : m ≤ M) (hM6 : M ≤ 1000000) (hw : ∀ x ∈ L, x.2.1.wf) :
    Calls Try.prog 24 #[.slice a1 m c1, .slice a2 M c2] w fun e w' => e = .returned (.bool true) ∧ Upd (fun _ => False) w w' := by
  have H1 := Lib.hid h1
  have H2 := Lib.hid h2
  have HM := Lib.hid hM
  have Hw := Lib.hid hw
  clear h1 h2 hM hw
  have j0 : ¬ (M : Int) < (m : Int) := by omega
  have j0' : (m : Int) ≤ (M : Int) := by omega
  go_enter Try.func24, Try.ntmps24
  go_wp2_with fail
  go_loopw [5] (fun i wr => ∃ k : Nat, k ≤ m ∧ i = .int .i64 k ∧ Upd (fun _ => False) w wr) (fun i _ => m - (intOf i).toNat)
  case atStart => exact ⟨0, Nat.zero_le _, rfl, Upd.refl _ _⟩
  case round =>
    obtain ⟨k, hk, rfl, hu⟩ := hrel
    have Hu := Lib.hid hu
    clear hu
    by_cases hlt : k < m
    · have hkL : k < L.length := by rw [HM.out]; omega
      obtain ⟨x, hx⟩ : ∃ x, L[k]? = some x := ⟨_, List.getElem?_eq_getElem hkL⟩
      obtain ⟨g1, o1, rfl, _, ca, ra⟩ := prows_cell (H1.out.kept Hu.out (fun _ _ _ => id)) (fun x hx => Hw.out x (List.mem_of_mem_take hx)) (i := k) (x := x) (by rw [List.getElem?_take, if_pos hlt]; exact hx)
      obtain ⟨g2, o2, rfl, _, cb, rb⟩ := srows_cell (H2.out.kept Hu.out (fun _ _ _ => id)) Hw.out (i := k) (x := x) hx
      have hvw := Hw.out x (List.mem_of_getElem? hx)
      obtain ⟨s, v, mm⟩ := x
      dsimp only at ca cb ra rb hvw
      have hz := fun w => eq_value v v hvw.1 hvw.1 w
      have inf35 : (Try.prog.info? 24).map (·.size) = some v.cells.length := by rw [v.cells_length hvw]; kernel_rfl
      have und35 := Try.underlying24
      have HS := Lib.hid (show wr.drew.cell? ⟨g1, o1 + k * 36, none⟩ = some (.string s) ∧ wr.drew.cell? ⟨g2, o2 + k * 40, none⟩ = some (.string s) ∧ wr.drew.rangeAt g1 (o1 + k * 36 + 1) v.cells ∧ wr.drew.rangeAt g2 (o2 + k * 40 + 1) v.cells from ⟨ca, cb, ra, rb⟩)
      have i1 : (0 : Int) ≤ (k : Int) := by omega
      have i2 : (k : Int) < (m : Int) := by omega
      have i3 : (k : Int) < (M : Int) := by omega
      clear ca cb ra rb hx hvw
      go_wp2_with fail
      refine wp_region_noPanic ?_
      refine wp_region_held_drew (S := (fun w' => w'.cell? ⟨g1, o1 + k * 36, none⟩ = some (.string s) ∧ w'.cell? ⟨g2, o2 + k * 40, none⟩ = some (.string s) ∧ w'.rangeAt g1 (o1 + k * 36 + 1) v.cells ∧ w'.rangeAt g2 (o2 + k * 40 + 1) v.cells)) (by kernel_rfl) ?_ (fun hHeld => ?_)
      · (try dsimp only); exact HS.out
      refine wpAnyH_take (i := 0) (v := ?_) rfl (by kernel_rfl) (by kernel_rfl) (by kernel_rfl) (fun _ _ _ h => h) (Or.inl ⟨by rfl, ?_⟩) (by assumption) ?_
      rotate_left
      · intro w hSw; (try dsimp only at hSw); go_simp; (try with_reducible rfl)
      (try simp only [List.getElem_toArray, List.getElem_cons_succ, List.getElem_cons_zero, Act.put, List.setIfInBounds_toArray, List.set_cons_zero, List.set_cons_succ])
      refine wpAnyH_take (i := 1) (v := ?_) rfl (by kernel_rfl) (by kernel_rfl) (by kernel_rfl) (fun _ _ _ h => h) (Or.inl ⟨by rfl, ?_⟩) (by assumption) ?_
      rotate_left
      · intro w hSw; (try dsimp only at hSw); go_simp; (try with_reducible rfl)
      (try simp only [List.getElem_toArray, List.getElem_cons_succ, List.getElem_cons_zero, Act.put, List.setIfInBounds_toArray, List.set_cons_zero, List.set_cons_succ])
      refine wpAnyH_take (i := 2) (v := ?_) rfl (by kernel_rfl) (by kernel_rfl) (by kernel_rfl) (fun _ _ _ h => h) (Or.inl ⟨by rfl, ?_⟩) (by assumption) ?_
      rotate_left
      · intro w hSw; (try dsimp only at hSw); go_simp; (try with_reducible rfl)
      (try simp only [List.getElem_toArray, List.getElem_cons_succ, List.getElem_cons_zero, Act.put, List.setIfInBounds_toArray, List.set_cons_zero, List.set_cons_succ])
      refine wpAnyH_take (i := 3) (v := ?_) rfl (by kernel_rfl) (by kernel_rfl) (by kernel_rfl) (fun _ _ _ h => h) (Or.inl ⟨by rfl, ?_⟩) (by assumption) ?_
      rotate_left
      · intro w hSw; (try dsimp only at hSw); go_simp; (try with_reducible rfl)
      (try simp only [List.getElem_toArray, List.getElem_cons_succ, List.getElem_cons_zero, Act.put, List.setIfInBounds_toArray, List.set_cons_zero, List.set_cons_succ])
      refine wpAnyH_take (i := 4) (v := ?_) rfl (by kernel_rfl) (by kernel_rfl) (by kernel_rfl) (fun _ _ _ h => h) (Or.inl ⟨by rfl, ?_⟩) (by assumption) ?_
      rotate_left
      · intro w hSw; (try dsimp only at hSw); go_simp; (try with_reducible rfl)
      (try simp only [List.getElem_toArray, List.getElem_cons_succ, List.getElem_cons_zero, Act.put, List.setIfInBounds_toArray, List.set_cons_zero, List.set_cons_succ])
      refine wpAnyH_take (i := 5) (v := ?_) rfl (by kernel_rfl) (by kernel_rfl) (by kernel_rfl) (fun _ _ _ h => h) (Or.inl ⟨by rfl, ?_⟩) (by assumption) ?_
      rotate_left
      · intro w hSw; (try dsimp only at hSw); go_simp; (try with_reducible rfl)
      (try simp only [List.getElem_toArray, List.getElem_cons_succ, List.getElem_cons_zero, Act.put, List.setIfInBounds_toArray, List.set_cons_zero, List.set_cons_succ])
      refine wpAnyH_take (i := 6) (v := ?_) rfl (by kernel_rfl) (by kernel_rfl) (by kernel_rfl) (fun _ _ _ h => h) (Or.inl ⟨by rfl, ?_⟩) (by assumption) ?_
      rotate_left
      · intro w hSw; (try dsimp only at hSw); go_simp; (try with_reducible rfl)
      (try simp only [List.getElem_toArray, List.getElem_cons_succ, List.getElem_cons_zero, Act.put, List.setIfInBounds_toArray, List.set_cons_zero, List.set_cons_succ])
      refine wpAnyH_take (i := 7) (v := ?_) rfl (by kernel_rfl) (by kernel_rfl) (by kernel_rfl) (fun _ _ _ h => h) (Or.inl ⟨by rfl, ?_⟩) (by assumption) ?_
      rotate_left
      · intro w hSw; (try dsimp only at hSw); go_simp; (try with_reducible rfl)
      (try simp only [List.getElem_toArray, List.getElem_cons_succ, List.getElem_cons_zero, Act.put, List.setIfInBounds_toArray, List.set_cons_zero, List.set_cons_succ])
      refine wpAnyH_take (i := 8) (v := ?_) rfl (by kernel_rfl) (by kernel_rfl) (by kernel_rfl) (fun _ _ _ h => h) (Or.inl ⟨by rfl, ?_⟩) (by assumption) ?_
      rotate_left
      · intro w hSw; (try dsimp only at hSw); go_simp; (try with_reducible rfl)
      (try simp only [List.getElem_toArray, List.getElem_cons_succ, List.getElem_cons_zero, Act.put, List.setIfInBounds_toArray, List.set_cons_zero, List.set_cons_succ])
      refine wpAnyH_take (i := 9) (v := ?_) rfl (by kernel_rfl) (by kernel_rfl) (by kernel_rfl) (fun _ _ _ h => h) (Or.inl ⟨by rfl, ?_⟩) (by assumption) ?_
      rotate_left
      · intro w hSw; (try dsimp only at hSw); go_simp; (try with_reducible rfl)
      (try simp only [List.getElem_toArray, List.getElem_cons_succ, List.getElem_cons_zero, Act.put, List.setIfInBounds_toArray, List.set_cons_zero, List.set_cons_succ])
      refine wpAnyH_take (i := 10) (v := ?_) rfl (by kernel_rfl) (by kernel_rfl) (by kernel_rfl) (fun _ _ _ h => h) (Or.inl ⟨by rfl, ?_⟩) (by assumption) ?_
      rotate_left
      · intro w hSw; (try dsimp only at hSw); go_simp; (try with_reducible rfl)
      (try simp only [List.getElem_toArray, List.getElem_cons_succ, List.getElem_cons_zero, Act.put, List.setIfInBounds_toArray, List.set_cons_zero, List.set_cons_succ])
      refine wpAnyH_take (i := 11) (v := ?_) rfl (by kernel_rfl) (by kernel_rfl) (by kernel_rfl) (fun _ _ _ h => h) (Or.inl ⟨by rfl, ?_⟩) (by assumption) ?_
      rotate_left
      · intro w hSw; (try dsimp only at hSw); go_simp; (try with_reducible rfl)
      (try simp only [List.getElem_toArray, List.getElem_cons_succ, List.getElem_cons_zero, Act.put, List.setIfInBounds_toArray, List.set_cons_zero, List.set_cons_succ])
      refine wpAnyH_take (i := 12) (v := ?_) rfl (by kernel_rfl) (by kernel_rfl) (by kernel_rfl) (fun _ _ _ h => h) (Or.inl ⟨by rfl, ?_⟩) (by assumption) ?_
      rotate_left
      · intro w hSw; (try dsimp only at hSw); go_simp; (try with_reducible rfl)
      (try simp only [List.getElem_toArray, List.getElem_cons_succ, List.getElem_cons_zero, Act.put, List.setIfInBounds_toArray, List.set_cons_zero, List.set_cons_succ])
      refine wpAnyH_take (i := 13) (v := ?_) rfl (by kernel_rfl) (by kernel_rfl) (by kernel_rfl) (fun _ _ _ h => h) (Or.inl ⟨by rfl, ?_⟩) (by assumption) ?_
      rotate_left
      · intro w hSw; (try dsimp only at hSw); go_simp; (try with_reducible rfl)
      (try simp only [List.getElem_toArray, List.getElem_cons_succ, List.getElem_cons_zero, Act.put, List.setIfInBounds_toArray, List.set_cons_zero, List.set_cons_succ])
      refine wpAnyH_take (i := 14) (v := ?_) rfl (by kernel_rfl) (by kernel_rfl) (by kernel_rfl) (fun _ _ _ h => h) (Or.inl ⟨by rfl, ?_⟩) (by assumption) ?_
      rotate_left
      · intro w hSw; (try dsimp only at hSw); go_simp; (try with_reducible rfl)
      (try simp only [List.getElem_toArray, List.getElem_cons_succ, List.getElem_cons_zero, Act.put, List.setIfInBounds_toArray, List.set_cons_zero, List.set_cons_succ])
      refine wpAnyH_take (i := 15) (v := ?_) rfl (by kernel_rfl) (by kernel_rfl) (by kernel_rfl) (fun _ _ _ h => h) (Or.inl ⟨by rfl, ?_⟩) (by assumption) ?_
      rotate_left
      · intro w hSw; (try dsimp only at hSw); go_simp; (try with_reducible rfl)
      (try simp only [List.getElem_toArray, List.getElem_cons_succ, List.getElem_cons_zero, Act.put, List.setIfInBounds_toArray, List.set_cons_zero, List.set_cons_succ])
      refine' wpAnyH_take (i := 16) (v := _) rfl (by kernel_rfl) (by kernel_rfl) (by kernel_rfl) (fun _ _ _ h => h) (yieldsIf_load_mid (by rfl) _ _ rfl _ _ rfl _ _ ?hS16 ?hu16 ?hd16 ?hi16) (by assumption) ?rest1
      case hS16 => (intro w hSw; (try dsimp only at hSw); go_split_ands; assumption)
      case hu16 => assumption
      case hd16 => rfl
      case hi16 => first | assumption | (simp only [*]; done)
      (try simp only [List.getElem_toArray, List.getElem_cons_succ, List.getElem_cons_zero, Act.put, List.setIfInBounds_toArray, List.set_cons_zero, List.set_cons_succ])
      refine wpAnyH_take (i := 17) (v := ?_) rfl (by kernel_rfl) (by kernel_rfl) (by kernel_rfl) (fun _ _ _ h => h) (Or.inl ⟨by rfl, ?_⟩) (by assumption) ?_
      rotate_left
      · intro w hSw; (try dsimp only at hSw); go_simp; (try with_reducible rfl)
      (try simp only [List.getElem_toArray, List.getElem_cons_succ, List.getElem_cons_zero, Act.put, List.setIfInBounds_toArray, List.set_cons_zero, List.set_cons_succ])
      refine wpAnyH_take (i := 18) (v := ?_) rfl (by kernel_rfl) (by kernel_rfl) (by kernel_rfl) (fun _ _ _ h => h) (Or.inl ⟨by rfl, ?_⟩) (by assumption) ?_
      rotate_left
      · intro w hSw; (try dsimp only at hSw); go_simp; (try with_reducible rfl)
      (try simp only [List.getElem_toArray, List.getElem_cons_succ, List.getElem_cons_zero, Act.put, List.setIfInBounds_toArray, List.set_cons_zero, List.set_cons_succ])
      refine wpAnyH_take (i := 19) (v := ?_) rfl (by kernel_rfl) (by kernel_rfl) (by kernel_rfl) (fun _ _ _ h => h) (Or.inl ⟨by rfl, ?_⟩) (by assumption) ?_
      rotate_left
      · intro w hSw; (try dsimp only at hSw); go_simp; (try with_reducible rfl)
      (try simp only [List.getElem_toArray, List.getElem_cons_succ, List.getElem_cons_zero, Act.put, List.setIfInBounds_toArray, List.set_cons_zero, List.set_cons_succ])
      refine wpAnyH_take (i := 20) (v := ?_) rfl (by kernel_rfl) (by kernel_rfl) (by kernel_rfl) (fun _ _ _ h => h) (Or.inl ⟨by rfl, ?_⟩) (by assumption) ?_
      rotate_left
      · intro w hSw; (try dsimp only at hSw); go_simp; (try with_reducible rfl)
      (try simp only [List.getElem_toArray, List.getElem_cons_succ, List.getElem_cons_zero, Act.put, List.setIfInBounds_toArray, List.set_cons_zero, List.set_cons_succ])
      refine' wpAnyH_take (i := 21) (v := _) rfl (by kernel_rfl) (by kernel_rfl) (by kernel_rfl) (fun _ _ _ h => h) (yieldsIf_load_mid (by rfl) _ _ rfl _ _ rfl _ _ ?hS21 ?hu21 ?hd21 ?hi21) (by assumption) ?rest2
      case hS21 => (intro w hSw; (try dsimp only at hSw); go_split_ands; assumption)
      case hu21 => assumption
      case hd21 => rfl
      case hi21 => first | assumption | (simp only [*]; done)
      (try simp only [List.getElem_toArray, List.getElem_cons_succ, List.getElem_cons_zero, Act.put, List.setIfInBounds_toArray, List.set_cons_zero, List.set_cons_succ])
      refine wpAnyH_take (i := 22) (v := ?_) rfl (by kernel_rfl) (by kernel_rfl) (by kernel_rfl) (fun _ _ _ h => h) (Or.inl ⟨by rfl, ?_⟩) (by assumption) ?_
      rotate_left
      · intro w hSw; (try dsimp only at hSw); go_simp; (try with_reducible rfl)
      (try simp only [List.getElem_toArray, List.getElem_cons_succ, List.getElem_cons_zero, Act.put, List.setIfInBounds_toArray, List.set_cons_zero, List.set_cons_succ])
      refine wpAnyH_take (i := 23) (v := ?_) rfl (by kernel_rfl) (by kernel_rfl) (by kernel_rfl) (fun _ _ _ h => h) (Or.inl ⟨by rfl, ?_⟩) (by assumption) ?_
      rotate_left
      · intro w hSw; (try dsimp only at hSw); go_simp; (try with_reducible rfl)
      (try simp only [List.getElem_toArray, List.getElem_cons_succ, List.getElem_cons_zero, Act.put, List.setIfInBounds_toArray, List.set_cons_zero, List.set_cons_succ])
      refine wpAnyH_done (by kernel_rfl) ?_ _
      refine NoPanic.normal ?_
      have Hu2 := Lib.hid (Hu.out.drew)
      generalize wr.drew = w2 at Hu2 ⊢
      go_wp2
      go_roundw
      case rel => exact ⟨k + 1, hlt, by go_num, Hu2.out⟩
      case measure => simp [intOf]; omega
    · obtain rfl : k = m := by omega
      go_wp2
      go_ret
      exact ⟨rfl, Hu.out⟩
end Go.Proofs.Ythnbinlllmkabaa
