/- The law's spots and sameSpots. -/
import Derived.Test.YthnbinlllmkabaaSpots
namespace Go.Proofs.Ythnbinlllmkabaa
open Go.RowKit Go.Shelf
set_option linter.unusedVariables false
set_option linter.unusedSimpArgs false

theorem mem_allKids : ∀ (ks : List Nd) (s : ByteArray) (x : ByteArray × Vl × (Mk × Mk)), x ∈ allKids ks s → ∃ (i : Nat) (h : i < ks.length), x ∈ allOf ks[i] (pathOf s ks[i].name)
  | [], _, _, h => by simp [allKids] at h
  | k :: ks, s, x, h => by
    rw [allKids, List.mem_append] at h
    rcases h with h | h
    · exact ⟨0, by simp, h⟩
    · obtain ⟨i, hi, hx⟩ := mem_allKids ks s x h
      exact ⟨i + 1, by simpa using hi, hx⟩
theorem treeAt_wf {w : World} {F : Nat → Prop} : ∀ (d p : Nat) (n : Nd), TreeAt w F d p n → ∀ (s : ByteArray) (x : ByteArray × Vl × (Mk × Mk)), x ∈ allOf n s → x.2.1.wf
  | 0, _, _, h => h.elim
  | d + 1, p, n, h => fun s x hx => by
    obtain ⟨_, h2, _, _, _, _, _, ps, _, _, _, _, _, h9, _, _, h12⟩ := h
    rw [allOf_eq, List.mem_cons] at hx
    rcases hx with rfl | hx
    · exact h2
    · obtain ⟨i, hi, hx⟩ := mem_allKids _ _ _ hx
      have hip : i < ps.length := by rw [h9]; exact hi
      exact treeAt_wf d _ _ (h12 i ps[i] n.kids[i] (List.getElem?_eq_getElem hip) (List.getElem?_eq_getElem hi)).2 _ x hx
/-- How many are given. -/
def limOf (lim : Int) (cnt : Nat) : Nat := if lim < 1 then cnt else min lim.toNat cnt
set_option maxHeartbeats 4000000 in
set_option maxRecDepth 100000 in
theorem spots_ok (F : Nat → Prop) (d : Nat) (w : World) (Bt p : Nat) (n : Nd) (lim : Int) (ht : TreeAt w F d p n) (hF : ∀ b, F b → b < w.heap.size) (hpt : n.parts ≤ 1000000) (hb : w.cell? ⟨Bt, 0, none⟩ = some (.pointer (some ⟨p, 0, none⟩))) (hlim : i64 lim) :
    Calls Try.prog 23 #[.func (.func 79) #[] #[.pointer (some ⟨Bt, 0, none⟩)], .int .i64 lim] w fun e w' => ∃ (a' : Option Addr) (c' k : Nat), e = .returned (.tuple #[.slice a' k c', .bool true]) ∧ k = limOf lim n.cnt ∧ Own w' 124 36 (.slice a' k c') k (prows ((allOf n ⟨#[]⟩).take k)) ∧ (∀ b, ob a' = some b → w.heap.size ≤ b) ∧ Below w.heap.size w w' := by
  have hbt : Bt < w.heap.size := World.block_lt_of_cell? w _ hb
  have Ht := Lib.hid ht
  have Hb := Lib.hid hb
  have Hpt := Lib.hid hpt
  have hA := alloc3 w (.cells #[.int .i64 lim] 3) (.cells #[.slice none 0 0] 73) (.cells #[.bool true] 4)
  have hb4 := on_alloc (on_alloc (on_alloc (Below.refl _ w) (.cells #[.int .i64 lim] 3)) (.cells #[.slice none 0 0] 73)) (.cells #[.bool true] 4)
  clear ht hb hpt
  go_enter Try.func23, Try.ntmps23
  go_wp2_with fail
  have hs3 : (((w.alloc (.cells #[.int .i64 lim] 3)).alloc (.cells #[.slice none 0 0] 73)).alloc (.cells #[.bool true] 4)).heap.size = w.heap.size + 3 := by simp
  obtain ⟨hn3, hl3, hw3⟩ := hA
  generalize (((w.alloc (.cells #[.int .i64 lim] 3)).alloc (.cells #[.slice none 0 0] 73)).alloc (.cells #[.bool true] 4)) = w3 at hw3 hn3 hl3 hb4 hs3 ⊢
  obtain ⟨Bn, hBn⟩ : ∃ B, B = w.heap.size := ⟨_, rfl⟩
  obtain ⟨Bl, hBl⟩ : ∃ B, B = w.heap.size + 1 := ⟨_, rfl⟩
  obtain ⟨Bw, hBw⟩ : ∃ B, B = w.heap.size + 1 + 1 := ⟨_, rfl⟩
  rw [← hBw] at hw3
  rw [← hBl] at hl3
  rw [← hBn] at hn3
  rw [← hBw, ← hBl, ← hBn]
  have hd : Bw ≠ Bl ∧ Bn ≠ Bl ∧ Bw ≠ Bn ∧ Bw < w3.heap.size ∧ Bl < w3.heap.size ∧ Bn < w3.heap.size := by omega
  have HB := Lib.hid (And.intro hBn (And.intro hBl hBw))
  clear hBn hBl hBw hs3
  obtain ⟨L, hL⟩ : ∃ L, L = allOf n ⟨#[]⟩ := ⟨_, rfl⟩
  have hLl : L.length = n.cnt := by rw [hL]; exact allOf_length n _
  have hL6 : L.length ≤ 1000000 := by rw [hLl]; exact Nat.le_trans (cnt_le_parts n) Hpt.out
  have hY : Yields 82 #[.pointer (some ⟨Bw, 0, none⟩), .pointer (some ⟨Bn, 0, none⟩), .pointer (some ⟨Bl, 0, none⟩)] L (fun b => b = Bw ∨ b = Bl ∨ w3.heap.size ≤ b)
      (fun i W => (∃ a3 c3, SpotSt w3 W Bw Bn Bl lim L i a3 c3) ∧ (lim < 1 ∨ (i : Int) < lim)) (fun W => ∃ i a3 c3, SpotSt w3 W Bw Bn Bl lim L i a3 c3 ∧ 1 ≤ lim ∧ (i : Int) = lim) := by
    rintro i x W hx ⟨⟨a3, c3, hs⟩, hi⟩
    refine (spots1_ok w3 W Bw Bn Bl lim L i a3 c3 x hx (treeAt_wf d p n Ht.out ⟨#[]⟩ x (by rw [← hL]; exact List.mem_of_getElem? hx)) hL6 hlim hd hs hi).mono ?_
    rintro e W' ⟨rfl, ⟨a', c', hs'⟩, hu⟩
    by_cases hc : lim < 1 ∨ ((i + 1 : Nat) : Int) < lim
    · exact .inl ⟨by rw [decide_eq_true hc], ⟨⟨a', c', hs'⟩, hc⟩, hu⟩
    · refine .inr ⟨by rw [decide_eq_false hc], ⟨i + 1, a', c', hs', ?_, ?_⟩, hu⟩ <;> omega
  have hJ0 : (∃ a3 c3, SpotSt w3 w3 Bw Bn Bl lim L 0 a3 c3) ∧ (lim < 1 ∨ ((0 : Nat) : Int) < lim) :=
    ⟨⟨none, 0, Own.nil _ _ _, fun b hb => by simp [ob] at hb, hl3, hw3, hn3, Upd.refl _ _, Nat.zero_le _⟩, by omega⟩
  have hcall := all1_ok (fun b => b < w.heap.size) d w3 Bt p n 82 _ _ _ _ (enters_of Try.func82 (by kernel_rfl) rfl) (by rw [← hL]; exact hY) (TreeAt.mono (fun b hb _ => hF b hb) _ _ _ (Ht.out.below hb4)) (fun b hb => by have h1 := HB.out; have h2 := hb4.size; omega) Hpt.out ((Upd.below hb4 (fun _ => False)).cell Hb.out id) hJ0
  have Hcall := Lib.hid hcall
  have Hb4 := Lib.hid hb4
  have HLl := Lib.hid hLl
  have HL := Lib.hid hL
  clear hcall hY hJ0 hb4 hw3 hn3 hl3 hL6 hLl hL
  refine Hcall.out.mono ?_
  rintro e w5 ⟨⟨v, rfl⟩, hj, hu5⟩
  have hres : ∃ (k : Nat) (a3 : Option Addr) (c3 : Nat), SpotSt w3 w5 Bw Bn Bl lim L k a3 c3 ∧ k = limOf lim n.cnt := by
    rcases hj with ⟨⟨a3, c3, hs⟩, hl⟩ | ⟨i, a3, c3, hs, h1, h2⟩
    · refine ⟨n.cnt, a3, c3, hs, ?_⟩
      unfold limOf
      split
      · rfl
      · rw [Nat.min_eq_right]; omega
    · refine ⟨i, a3, c3, hs, ?_⟩
      have h3 := hs.le
      rw [HLl.out] at h3
      unfold limOf
      rw [if_neg (by omega), Nat.min_eq_left (by omega)]
      omega
  obtain ⟨k, a3, c3, hs, hk⟩ := hres
  have f0 := cell_of_row _ Bw 0 _ _ _ hs.bw
  have f1 := cell_of_row _ Bl 0 _ _ _ hs.bl
  simp at f0 f1
  have Hs := Lib.hid hs
  have Hk := Lib.hid hk
  clear hj hu5 hs hk
  go_wp2_with fail
  go_quiet (fail)
  have Hq := Lib.hid (show Upd (fun _ => False) w5 (w5.drewN nq) from (Upd.refl _ _).drewN nq)
  generalize w5.drewN nq = w6 at Hq ⊢
  clear f0 f1
  go_wp2
  go_ret2
  have h1 := HB.out
  refine ⟨a3, c3, k, rfl, Hk.out, by rw [← HL.out]; exact Hs.out.own.kept Hq.out (fun _ _ => id), fun b hb => Nat.le_trans Hb4.out.size (Hs.out.new b hb), ?_⟩
  exact ((Hb4.out.upd (Nat.le_refl _) Hs.out.upd (fun b hb => by have := Hb4.out.size; omega)).upd (Nat.le_refl _) Hq.out (fun _ h => h.elim))
end Go.Proofs.Ythnbinlllmkabaa
