/- The law SumSHAs, walked. -/
import Derived.Test.YtefobboakikpbaaDoorShas4
import Derived.Test.YtefobboakikpbaaDoorRef5
import Derived.Deep.RegionHeld3
namespace Go.Proofs.YtefobboakikpbaaDoor
open Go.RowKit
set_option linter.unusedVariables false
set_option linter.unusedSimpArgs false

set_option maxHeartbeats 4000000 in
set_option maxRecDepth 100000 in
theorem hold_c (w0 w : World) (p m : Nat) (af : Option Addr) (cf : Nat) (ab aa av ad : Option Addr) (cb ca cv cd : Nat) (xb xa vs more : List Value) (Ls : List (List UInt8)) (h : ChunksAt w0 w p m af cf ab aa av ad cb ca cv cd xb xa vs more Ls) (hm : m ≤ 32768) (hl : ∀ i, i < m → (Ls.getD i []).length ≤ 32768) :
    Calls Tryd.prog 27 #[.pointer (some ⟨p, 0, none⟩)] w fun e w' => e = .returned (.bool true) ∧ ∃ n, w' = w.drewN n := by
  have H := Lib.hid h
  have Hl := Lib.hid hl
  clear h hl
  go_enter Tryd.func27, Tryd.ntmps27
  go_wp2_with fail
  refine (holdBytes_any w p ab aa cb ca _ _ m H.out.room xb xa H.out.ob.sl H.out.oa.sl (by omega) (H.out.lots.holds Hl.out)).mono ?_
  rintro e w' ⟨rfl, hw⟩
  obtain rfl := hw.symm
  go_wp2_with fail
  refine (holdInts_any w p _ _ _ _ H.out.room).mono ?_
  rintro e w' ⟨rfl, hw⟩
  obtain rfl := hw.symm
  go_wp2_with fail
  refine (holdTexts_any w p _ _ _ _ H.out.room).mono ?_
  rintro e w' ⟨rfl, hw⟩
  obtain rfl := hw.symm
  go_wp2_with fail
  refine (holdChanges_any w p _ _ _ _ H.out.room).mono ?_
  rintro e w' ⟨rfl, hw⟩
  obtain rfl := hw.symm
  go_wp2_with fail
  refine (holdCells_any w p _ _ _ _ H.out.room).mono ?_
  rintro e w' ⟨rfl, hw⟩
  obtain rfl := hw.symm
  go_wp2_with fail
  refine (holdItems_any w p _ _ _ _ H.out.room).mono ?_
  rintro e w' ⟨rfl, hw⟩
  obtain rfl := hw.symm
  go_wp2_with fail
  refine (holdPlaceds_any w p _ _ _ _ H.out.room).mono ?_
  rintro e w' ⟨rfl, hw⟩
  obtain rfl := hw.symm
  go_wp2_with fail
  refine (holdRules_any w p _ _ _ _ H.out.room).mono ?_
  rintro e w' ⟨rfl, hw⟩
  obtain rfl := hw.symm
  go_wp2_with fail
  refine (holdChunks_at w0 w p m af cf ab aa av ad cb ca cv cd xb xa vs more Ls H.out hm).mono ?_
  rintro e w' ⟨rfl, n, rfl⟩
  obtain ⟨wn, hwn⟩ : ∃ wn, wn = w.drewN n := ⟨_, rfl⟩
  have Hr : Hid (RoomAt wn p (.slice ab m cb) (.slice aa m ca) (.slice av 1 cv) (.slice ad 1 cd)) := by show RoomAt wn _ _ _ _ _; rw [hwn]; exact H.out.room
  rw [← hwn]
  have Hwn := Lib.hid hwn
  clear hwn H
  go_wp2_with fail
  refine (holdThings_any wn p _ _ _ _ Hr.out).mono ?_
  rintro e w' ⟨rfl, hw⟩
  obtain rfl := hw.symm
  go_wp2_with fail
  refine (holdDones_any wn p _ _ _ _ Hr.out).mono ?_
  rintro e w' ⟨rfl, hw⟩
  obtain rfl := hw.symm
  go_wp2_with fail
  refine (holdNodes_any wn p _ _ _ _ Hr.out).mono ?_
  rintro e w' ⟨rfl, hw⟩
  obtain rfl := hw.symm
  go_wp2_with fail
  refine (holdSteps_any wn p _ _ _ _ Hr.out).mono ?_
  rintro e w' ⟨rfl, hw⟩
  obtain rfl := hw.symm
  go_wp2
  go_ret
  exact ⟨rfl, n, Hwn.out⟩
theorem SHA_at (w : World) (hk : KeysAt w) (hbg : BeginAt w) (ap : Option Addr) (cp m : Nat) (Ps : List (List UInt8)) (hP : Parts w (.slice ap m cp) Ps) (hm : Ps.length = m) (hlen : Ps.flatten.length ≤ 70368744177664) (hnum : m ≤ 9223372036854775807) :
    Calls Tryd.prog 24 #[.slice ap m cp] w fun e w' => e = .returned (.agg (bytes (sha Ps.flatten)).toArray) ∧ Below w.heap.size w w' := by
  subst hm
  exact SHA_any w hk hbg ap cp Ps hP hlen hnum
theorem ChunksAt.row {w0 w : World} {p m : Nat} {af : Option Addr} {cf : Nat} {ab aa av ad : Option Addr} {cb ca cv cd : Nat} {xb xa vs more : List Value} {Ls : List (List UInt8)} (h : ChunksAt w0 w p m af cf ab aa av ad cb ca cv cd xb xa vs more Ls)
    {i n : Nat} (hi : i < m) (hn : (Ls.getD i []).length = n) : ∃ (g off : Nat) (ai : Option Addr), af = some ⟨g, off, none⟩ ∧ w.cell? ⟨g, off + i, none⟩ = some (.slice ai n (n + 4)) := by
  subst hn
  obtain ⟨v, x, z, h1, h2, h3, ai, ci, rfl, rfl, rfl, h5, h6⟩ := h.lots.at_ i hi
  obtain ⟨g, off, rfl, _, hc⟩ := h.of_.sl.open_ (by rw [h.of_.1]; omega)
  exact ⟨g, off, ai, rfl, hc i _ (by rw [List.getElem?_append_left (by rw [h.lots.lv]; exact hi)]; exact h1)⟩
theorem flatten_length_same : ∀ (Ls Ps : List (List UInt8)), Ls.length = Ps.length → (∀ i, i < Ls.length → (Ls.getD i []).length = (Ps.getD i []).length) → Ls.flatten.length = Ps.flatten.length
  | [], [], _, _ => rfl
  | [], _ :: _, h, _ => by simp at h
  | _ :: _, [], h, _ => by simp at h
  | x :: Ls, y :: Ps, h, hi => by
    have h0 := hi 0 (by simp)
    have := flatten_length_same Ls Ps (by simpa using h) (fun i h => by have := hi (i + 1) (by simp; omega); simpa using this)
    simp at h0
    simp [h0, this]
theorem joinTo_all (Ps : List (List UInt8)) {m : Nat} (hm : Ps.length = m) : joinTo Ps m = Ps.flatten := by unfold joinTo; rw [List.take_of_length_le (by omega)]
set_option maxHeartbeats 4000000 in
set_option maxRecDepth 100000 in
theorem shas_law (w : World) (hk : KeysAt w) (hbg : BeginAt w) (a : Option Addr) (c m : Nat) (Ps : List (List UInt8)) (hP : Parts w (.slice a m c) Ps) (hm : Ps.length = m) (hm2 : m ≤ 9223372036854775807) :
    Calls Tryd.prog 5 #[.slice a m c] w fun e w' => e = .returned (.bool true) ∧ Below w.heap.size w w' := by
  have Hk := Lib.hid hk
  have Hbg := Lib.hid hbg
  have HP := Lib.hid hP
  have Hm := Lib.hid hm
  clear hk hbg hP hm
  go_enter Tryd.func5, Tryd.ntmps5
  go_wp2_with fail
  refine (few_any w a c m Ps HP.out Hm.out hm2).mono ?_
  rintro e w1 ⟨b, rfl, hb, hbe⟩
  have Hbe := Lib.hid hbe
  clear hbe
  cases b with
  | false =>
    clear hb
    go_wp2
    go_ret
    exact ⟨rfl, Hbe.out⟩
  | true =>
    have hsum := hb rfl
    have hml : m ≤ 32768 := by omega
    have Hsum := Lib.hid hsum
    clear hb hsum
    go_wp2_with fail
    have hroom : RoomAt (w1.alloc (.cells #[.slice none 0 0, .slice none 0 0, .slice none 0 0, .slice none 0 0, .slice none 0 0, .slice none 0 0, .slice none 0 0, .slice none 0 0, .slice none 0 0, .slice none 0 0, .slice none 0 0, .slice none 0 0, .slice none 0 0, .slice none 0 0, .slice none 0 0, .slice none 0 0, .slice none 0 0, .slice none 0 0, .slice none 0 0, .slice none 0 0, .slice none 0 0, .slice none 0 0, .slice none 0 0, .slice none 0 0, .slice none 0 0, .slice none 0 0] 60)) w1.heap.size (.slice none 0 0) (.slice none 0 0) (.slice none 0 0) (.slice none 0 0) := heap_alloc_new w1 _
    have hb1 : Below w.heap.size w (w1.alloc (.cells #[.slice none 0 0, .slice none 0 0, .slice none 0 0, .slice none 0 0, .slice none 0 0, .slice none 0 0, .slice none 0 0, .slice none 0 0, .slice none 0 0, .slice none 0 0, .slice none 0 0, .slice none 0 0, .slice none 0 0, .slice none 0 0, .slice none 0 0, .slice none 0 0, .slice none 0 0, .slice none 0 0, .slice none 0 0, .slice none 0 0, .slice none 0 0, .slice none 0 0, .slice none 0 0, .slice none 0 0, .slice none 0 0, .slice none 0 0] 60)) := Hbe.out.alloc Hbe.out.size _
    generalize w1.alloc (.cells #[.slice none 0 0, .slice none 0 0, .slice none 0 0, .slice none 0 0, .slice none 0 0, .slice none 0 0, .slice none 0 0, .slice none 0 0, .slice none 0 0, .slice none 0 0, .slice none 0 0, .slice none 0 0, .slice none 0 0, .slice none 0 0, .slice none 0 0, .slice none 0 0, .slice none 0 0, .slice none 0 0, .slice none 0 0, .slice none 0 0, .slice none 0 0, .slice none 0 0, .slice none 0 0, .slice none 0 0, .slice none 0 0, .slice none 0 0] 60) = w2 at hroom hb1 ⊢
    obtain ⟨p, hp⟩ : ∃ p, p = w1.heap.size := ⟨_, rfl⟩
    have hpw : w.heap.size ≤ p := by rw [hp]; exact Hbe.out.size
    rw [← hp] at hroom ⊢
    clear hp Hbe
    refine (chunks_any w2 p hroom a c m Ps (fun wr hu => HP.out.below (hb1.upd (Nat.le_refl _) hu (fun b hb => by omega))) Hm.out Hsum.out).mono ?_
    rintro e w3 ⟨af, cf, ab, aa, av, ad, cb, ca, cv, cd, xb, xa, vs, more, rfl, hc⟩
    have hb3 : Below w.heap.size w w3 := hb1.upd (Nat.le_refl _) hc.upd (fun b hb => by omega)
    have Hc3 := Lib.hid hc
    have Hb3 := Lib.hid hb3
    have Hb2 := Lib.hid hb1
    clear hroom hb1 hc hb3
    go_wp2_with fail
    refine (joined_any w3 a c m Ps (HP.out.below Hb3.out) Hm.out Hsum.out).mono ?_
    rintro e w4 ⟨aj, cj, n, rfl, hn, hn2, hs, hb4⟩
    have Hn := Lib.hid hn
    have Hs := Lib.hid hs
    have Hb4 := Lib.hid hb4
    clear hn hs hb4
    go_wp2_with fail
    refine (refSHA_any w4 aj cj n Ps.flatten Hs.out Hn.out.symm (by omega)).mono ?_
    rintro e w5 ⟨rfl, hb5⟩
    have Hb5 := Lib.hid (below_on Hb4.out hb5)
    clear hb5 Hs Hb4
    obtain ⟨L, hL⟩ : ∃ L, L = bytes (sha Ps.flatten) := ⟨_, rfl⟩
    have inf26 : (Tryd.prog.info? 26).map (·.size) = some L.length := by rw [hL, bytes_length, sha_length]; kernel_rfl
    have und26 : Tryd.prog.underlying 26 = some (.array 32 5) := Tryd.underlying26
    obtain ⟨hCs, hCo⟩ := sum_cells (sha Ps.flatten) (sha_length _)
    rw [← hL] at hCs hCo ⊢
    have hC : L.toArray = (bytes (sha Ps.flatten)).toArray := by rw [hL]
    have q1 : ∀ w, (Op.equalIn 10000 26 (.agg L.toArray) (.agg L.toArray)).run Tryd.prog w = .ok true w := fun w => by rw [hL]; exact eq_sum _ (sha_length _) w
    have HC := Lib.hid hC
    have HCs := Lib.hid hCs
    have HCo := Lib.hid hCo
    clear hC hCs hCo hL
    go_wp2_with (refine wpList_store_fresh rfl 26 _ _ rfl L.toArray rfl rfl (by rw [HCs.out]; kernel_rfl) (by rw [HCs.out]; rfl) HCo.out ?_)
    intro w6 hs6 hr6 hb6
    obtain ⟨B, hB⟩ : ∃ B, B = w5.heap.size := ⟨_, rfl⟩
    rw [← hB] at hs6 hr6 ⊢
    have hb36 : Below w3.heap.size w3 w6 := below_on Hb5.out hb6
    have Hc6 := Lib.hid (Hc3.out.kept hb36)
    have Hb6 := Lib.hid (Hb3.out.trans (hb36.mono Hb3.out.size))
    have HPi := Lib.hid (Hc6.out.parts Hm.out)
    have HPa := Lib.hid (HP.out.below Hb6.out)
    have Hk6 := Lib.hid (Hk.out.below Hb6.out)
    have Hbg6 := Lib.hid (Hbg.out.below Hb6.out)
    have hflat : Ps.flatten.length ≤ 70368744177664 := by rw [← Hn.out]; omega
    have Hkn := Lib.hid (show Kw w6 L.toArray B w6 from ⟨Below.refl _ _, hr6⟩)
    clear hs6 hr6 hb6 hB hb36 Hb5 Hc3
    go_wp2_with fail
    refine wp_region_noPanic ?_
    refine wp_region_held_drew (S := (fun w' => Kw w6 L.toArray B w' ∧ w'.rangeAt B 0 L)) (by kernel_rfl) ?_ (fun hHeld => ?_)
    · (try dsimp only); (first | assumption | exact Kw.range Hkn.out | exact Kw.range (Kw.drew Hkn.out) | exact Kw.range (Kw.alloc Hkn.out _) | exact Kw.range (Kw.drew (Kw.alloc Hkn.out _)))
    refine wpAnyH_take (i := 0) (v := ?_) rfl (by kernel_rfl) (by kernel_rfl) (by kernel_rfl) (fun _ _ _ h => h) (Or.inl ⟨by rfl, ?_⟩) (by assumption) ?_
    rotate_left
    · intro w hSw; (try dsimp only at hSw); go_simp; (try with_reducible rfl)
    (try simp only [List.getElem_toArray, List.getElem_cons_succ, List.getElem_cons_zero, Act.put, List.setIfInBounds_toArray, List.set_cons_zero, List.set_cons_succ])
    refine' wpAnyH_take (i := 2) (v := _) rfl (by kernel_rfl) (by kernel_rfl) (by kernel_rfl) (fun _ _ _ h => h) (yieldsIf_load_mid (by rfl) _ _ rfl _ _ rfl _ _ ?hS2 ?hu2 ?hd2 ?hi2) (by assumption) ?rest1
    case hS2 => (intro w hSw; (try dsimp only at hSw); go_split_ands; assumption)
    case hu2 => assumption
    case hd2 => rfl
    case hi2 => first | assumption | (simp only [*]; done)
    (try simp only [List.getElem_toArray, List.getElem_cons_succ, List.getElem_cons_zero, Act.put, List.setIfInBounds_toArray, List.set_cons_zero, List.set_cons_succ])
    refine wpAnyH_ready (rs := [1]) (by kernel_rfl) (by simp) ?_
    refine AllReadyH.cons rfl (fun K hK => ?_) ?_
    rotate_left
    · exact AllReadyH.nil
    go_simp
    (go_at_call 24; go_split_ands; refine (SHA_at _ ?_ ?_ af (m + 40) m Ps ?_ Hm.out hflat (by omega)).mono ?_; exact Hk6.out.below (Kw.below (by assumption)); exact Hbg6.out.below (Kw.below (by assumption)); exact HPi.out.below (Kw.below (by assumption)); rintro e wn ⟨rfl, hbn⟩; rw [← HC.out]; have Hkn := Lib.hid (Kw.next hbn (by assumption)); clear hbn)
    (try go_wp2_with fail)
    refine hK.out _ _ ?_ (fun hHeld => ?_)
    · (try dsimp only); (first | assumption | exact Kw.range Hkn.out | exact Kw.range (Kw.drew Hkn.out) | exact Kw.range (Kw.alloc Hkn.out _) | exact Kw.range (Kw.drew (Kw.alloc Hkn.out _)))
    clear hK K
    (try simp only [List.getElem_toArray, List.getElem_cons_succ, List.getElem_cons_zero, Act.put, List.setIfInBounds_toArray, List.set_cons_zero, List.set_cons_succ])
    refine wpAnyH_take (i := 3) (v := ?_) rfl (by kernel_rfl) (by kernel_rfl) (by kernel_rfl) (fun _ _ _ h => h) (Or.inl ⟨by rfl, ?_⟩) (by assumption) ?_
    rotate_left
    · intro w hSw; (try dsimp only at hSw); go_simp; (try with_reducible rfl)
    (try simp only [List.getElem_toArray, List.getElem_cons_succ, List.getElem_cons_zero, Act.put, List.setIfInBounds_toArray, List.set_cons_zero, List.set_cons_succ])
    refine wpAnyH_take (i := 4) (v := ?_) rfl (by kernel_rfl) (by kernel_rfl) (by kernel_rfl) (fun _ _ _ h => h) (Or.inl ⟨by rfl, ?_⟩) (by assumption) ?_
    rotate_left
    · intro w hSw; (try dsimp only at hSw); go_simp; (try with_reducible rfl)
    (try simp only [List.getElem_toArray, List.getElem_cons_succ, List.getElem_cons_zero, Act.put, List.setIfInBounds_toArray, List.set_cons_zero, List.set_cons_succ])
    refine wpAnyH_take (i := 5) (v := ?_) rfl (by kernel_rfl) (by kernel_rfl) (by kernel_rfl) (fun _ _ _ h => h) (Or.inl ⟨by rfl, ?_⟩) (by assumption) ?_
    rotate_left
    · intro w hSw; (try dsimp only at hSw); go_simp; (try with_reducible rfl)
    (try simp only [List.getElem_toArray, List.getElem_cons_succ, List.getElem_cons_zero, Act.put, List.setIfInBounds_toArray, List.set_cons_zero, List.set_cons_succ])
    refine' wpAnyH_take (i := 7) (v := _) rfl (by kernel_rfl) (by kernel_rfl) (by kernel_rfl) (fun _ _ _ h => h) (yieldsIf_load_mid (by rfl) _ _ rfl _ _ rfl _ _ ?hS7 ?hu7 ?hd7 ?hi7) (by assumption) ?rest2
    case hS7 => (intro w hSw; (try dsimp only at hSw); go_split_ands; assumption)
    case hu7 => assumption
    case hd7 => rfl
    case hi7 => first | assumption | (simp only [*]; done)
    (try simp only [List.getElem_toArray, List.getElem_cons_succ, List.getElem_cons_zero, Act.put, List.setIfInBounds_toArray, List.set_cons_zero, List.set_cons_succ])
    refine wpAnyH_ready (rs := [6]) (by kernel_rfl) (by simp) ?_
    refine AllReadyH.cons rfl (fun K hK => ?_) ?_
    rotate_left
    · exact AllReadyH.nil
    go_simp
    (go_at_call 24; go_split_ands; refine (SHA_at _ ?_ ?_ af (m + 40) m Ps ?_ Hm.out hflat (by omega)).mono ?_; exact Hk6.out.below (Kw.below (by assumption)); exact Hbg6.out.below (Kw.below (by assumption)); exact HPi.out.below (Kw.below (by assumption)); rintro e wn ⟨rfl, hbn⟩; rw [← HC.out]; have Hkn := Lib.hid (Kw.next hbn (by assumption)); clear hbn)
    (try go_wp2_with fail)
    refine hK.out _ _ ?_ (fun hHeld => ?_)
    · (try dsimp only); (first | assumption | exact Kw.range Hkn.out | exact Kw.range (Kw.drew Hkn.out) | exact Kw.range (Kw.alloc Hkn.out _) | exact Kw.range (Kw.drew (Kw.alloc Hkn.out _)))
    clear hK K
    (try simp only [List.getElem_toArray, List.getElem_cons_succ, List.getElem_cons_zero, Act.put, List.setIfInBounds_toArray, List.set_cons_zero, List.set_cons_succ])
    refine wpAnyH_take (i := 8) (v := ?_) rfl (by kernel_rfl) (by kernel_rfl) (by kernel_rfl) (fun _ _ _ h => h) (Or.inl ⟨by rfl, ?_⟩) (by assumption) ?_
    rotate_left
    · intro w hSw; (try dsimp only at hSw); go_simp; (try with_reducible rfl)
    (try simp only [List.getElem_toArray, List.getElem_cons_succ, List.getElem_cons_zero, Act.put, List.setIfInBounds_toArray, List.set_cons_zero, List.set_cons_succ])
    refine wpAnyH_take (i := 9) (v := ?_) rfl (by kernel_rfl) (by kernel_rfl) (by kernel_rfl) (fun _ _ _ h => h) (Or.inl ⟨by rfl, ?_⟩) (by assumption) ?_
    rotate_left
    · intro w hSw; (try dsimp only at hSw); go_simp; (try with_reducible rfl)
    (try simp only [List.getElem_toArray, List.getElem_cons_succ, List.getElem_cons_zero, Act.put, List.setIfInBounds_toArray, List.set_cons_zero, List.set_cons_succ])
    refine wpAnyH_take (i := 10) (v := ?_) rfl (by kernel_rfl) (by kernel_rfl) (by kernel_rfl) (fun _ _ _ h => h) (Or.inl ⟨by rfl, ?_⟩) (by assumption) ?_
    rotate_left
    · intro w hSw; (try dsimp only at hSw); go_simp; (try with_reducible rfl)
    (try simp only [List.getElem_toArray, List.getElem_cons_succ, List.getElem_cons_zero, Act.put, List.setIfInBounds_toArray, List.set_cons_zero, List.set_cons_succ])
    refine wpAnyH_take (i := 11) (v := ?_) rfl (by kernel_rfl) (by kernel_rfl) (by kernel_rfl) (fun _ _ _ h => h) (Or.inl ⟨by rfl, ?_⟩) (by assumption) ?_
    rotate_left
    · intro w hSw; (try dsimp only at hSw); go_simp; (try with_reducible rfl)
    (try simp only [List.getElem_toArray, List.getElem_cons_succ, List.getElem_cons_zero, Act.put, List.setIfInBounds_toArray, List.set_cons_zero, List.set_cons_succ])
    refine wpAnyH_take (i := 12) (v := ?_) rfl (by kernel_rfl) (by kernel_rfl) (by kernel_rfl) (fun _ _ _ h => h) (Or.inl ⟨by rfl, ?_⟩) (by assumption) ?_
    rotate_left
    · intro w hSw; (try dsimp only at hSw); go_simp; (try with_reducible rfl)
    (try simp only [List.getElem_toArray, List.getElem_cons_succ, List.getElem_cons_zero, Act.put, List.setIfInBounds_toArray, List.set_cons_zero, List.set_cons_succ])
    refine wpAnyH_ready (rs := [13]) (by kernel_rfl) (by simp) ?_
    refine AllReadyH.cons rfl (fun K hK => ?_) ?_
    rotate_left
    · exact AllReadyH.nil
    go_simp
    (go_at_call 25; go_split_ands; refine (sameLists_any _ af a (m + 40) c m Ps ?_ ?_ Hm.out (by omega)).mono ?_; exact HPi.out.below (Kw.below (by assumption)); exact HPa.out.below (Kw.below (by assumption)); rintro e wn ⟨rfl, hbn⟩; have Hkn := Lib.hid (Kw.next hbn (by assumption)); clear hbn)
    (try go_wp2_with fail)
    refine hK.out _ _ ?_ (fun hHeld => ?_)
    · (try dsimp only); (first | assumption | exact Kw.range Hkn.out | exact Kw.range (Kw.drew Hkn.out) | exact Kw.range (Kw.alloc Hkn.out _) | exact Kw.range (Kw.drew (Kw.alloc Hkn.out _)))
    clear hK K
    (try simp only [List.getElem_toArray, List.getElem_cons_succ, List.getElem_cons_zero, Act.put, List.setIfInBounds_toArray, List.set_cons_zero, List.set_cons_succ])
    refine wpAnyH_take (i := 14) (v := ?_) rfl (by kernel_rfl) (by kernel_rfl) (by kernel_rfl) (fun _ _ _ h => h) (Or.inl ⟨by rfl, ?_⟩) (by assumption) ?_
    rotate_left
    · intro w hSw; (try dsimp only at hSw); go_simp; (try with_reducible rfl)
    (try simp only [List.getElem_toArray, List.getElem_cons_succ, List.getElem_cons_zero, Act.put, List.setIfInBounds_toArray, List.set_cons_zero, List.set_cons_succ])
    refine wpAnyH_take (i := 15) (v := ?_) rfl (by kernel_rfl) (by kernel_rfl) (by kernel_rfl) (fun _ _ _ h => h) (Or.inl ⟨by rfl, ?_⟩) (by assumption) ?_
    rotate_left
    · intro w hSw; (try dsimp only at hSw); go_simp; (try with_reducible rfl)
    (try simp only [List.getElem_toArray, List.getElem_cons_succ, List.getElem_cons_zero, Act.put, List.setIfInBounds_toArray, List.set_cons_zero, List.set_cons_succ])
    refine wpAnyH_done (by kernel_rfl) ?_ _
    refine NoPanic.normal ?_
    have Hc7 := Lib.hid (Hc6.out.kept Hkn.out.below)
    have Hb7 := Lib.hid (Hb6.out.trans (Hkn.out.below.mono Hb6.out.size))
    clear Hkn HPi HPa Hk6 Hbg6 Hc6 Hb6 hHeld HC HCs HCo q1 inf26 und26
    have hle : ∀ i, i < m → (Ps.getD i []).length ≤ 32768 := fun i hi => by
      have h1 := joinTo_le Ps (i + 1)
      rw [joinTo_succ Ps i (by rw [Hm.out]; exact hi), List.length_append, ← Hn.out] at h1
      omega
    have Hle := Lib.hid hle
    clear hle
    go_wp2_with fail
    go_loopw [6] (fun i wr => ∃ (k : Nat) (Ls : List (List UInt8)), k ≤ m ∧ i = .int .i64 k ∧ Ls.length = m ∧ (∀ i, i < m → (Ls.getD i []).length = (Ps.getD i []).length) ∧ ChunksAt w2 wr p m af cf ab aa av ad cb ca cv cd xb xa vs more Ls) (fun i _ => m - (intOf i).toNat)
    case atStart => exact ⟨0, Ps, Nat.zero_le _, rfl, Hm.out, fun _ _ => rfl, Hc7.out⟩
    case round =>
      obtain ⟨k, Ls, hkm, rfl, hLl, hLs, hc⟩ := hrel
      have HLl := Lib.hid hLl
      have HLs := Lib.hid hLs
      have Hc := Lib.hid hc
      clear hLl hLs hc Hc7
      by_cases hlt : k < m
      · obtain ⟨n1, hn1⟩ : ∃ n1, n1 = (Ps.getD k []).length := ⟨_, rfl⟩
        have Hn1 := Lib.hid hn1
        have hn1b : n1 ≤ 32768 := by rw [hn1]; exact Hle.out k hlt
        have j1 : (0 : Int) ≤ (k : Int) := by omega
        have j2 : (k : Int) < (m : Int) := by omega
        clear hn1
        go_wp2_with fail
        go_loopw [7] (fun i wq => ∃ (j : Nat) (Ls : List (List UInt8)), j ≤ n1 ∧ i = .int .i64 j ∧ Ls.length = m ∧ (∀ i, i < m → (Ls.getD i []).length = (Ps.getD i []).length) ∧ ChunksAt w2 wq p m af cf ab aa av ad cb ca cv cd xb xa vs more Ls) (fun i _ => n1 - (intOf i).toNat)
        case atStart => exact ⟨0, Ls, Nat.zero_le _, rfl, HLl.out, HLs.out, Hc.out⟩
        case round =>
          rename World => wq
          clear Hc HLl HLs Ls
          obtain ⟨j, Ls, hjn, rfl, hLl, hLs, hc⟩ := hrel
          have HLl := Lib.hid hLl
          have HLs := Lib.hid hLs
          have Hc := Lib.hid hc
          have hnk := (hLs k hlt).trans Hn1.out.symm
          clear hLl hLs hc
          by_cases hlt2 : j < n1
          · obtain ⟨g, off, gi, offi, x, rfl, c0, c1, hx8, fz, hn63, hset⟩ := Hc.out.byte hlt hnk hlt2
            have Hnk := Lib.hid hnk
            have hset2 : ∀ y : UInt8, ChunksAt w2 (wq.drew.setCell ⟨gi, offi + j, none⟩ (.int .u8 (y.toNat : Int))) p m (some ⟨g, off, none⟩) cf ab aa av ad cb ca cv cd xb xa vs more (Ls.set k ((Ls.getD k []).set j y)) := fun y => (hset y).kept (on_drew (Below.refl _ _))
            have Hset := Lib.hid hset2
            have j3 : (0 : Int) ≤ (j : Int) := by omega
            have j4 : (j : Int) < (n1 : Int) := by omega
            have e1 : IntKind.i64.wrap ((k : Int) + (j : Int)) = (k : Int) + (j : Int) := IntWalk.i64_in _ (by omega)
            have e2 : IntKind.i64.wrap ((k : Int) + (j : Int) + 1) = (k : Int) + (j : Int) + 1 := IntWalk.i64_in _ (by omega)
            clear hnk hset hset2
            go_wp2_with fail
            go_still_tail 19, (by kernel_rfl)
            change wpList _ _ _ _ _ wq.drew
            obtain ⟨wz, hwz⟩ : ∃ wz, wz = wq.drew := ⟨_, rfl⟩
            have fz' : wz.frozen? ⟨gi, offi + j, none⟩ = false := by rw [hwz]; exact fz
            have c1' : wz.cell? ⟨gi, offi + j, none⟩ = some (.int .u8 (x : Nat)) := by rw [hwz]; exact c1
            rw [← hwz]
            have Hwz := Lib.hid hwz
            clear hwz c0 c1 fz
            go_wp2
            go_roundw
            case rel =>
              refine ⟨j + 1, Ls.set k ((Ls.getD k []).set j (UInt8.ofNat (((x : Int) + ((k : Int) + (j : Int) + 1)) % 256).toNat)), hlt2, by go_num, by rw [List.length_set]; exact HLl.out, fun i hi => ?_, ?_⟩
              · by_cases hik : i = k
                · subst hik
                  rw [List.getD_eq_getElem?_getD, List.getElem?_set_self (by rw [HLl.out]; exact hlt)]
                  simp only [Option.getD_some, List.length_set]
                  exact HLs.out i hi
                · rw [List.getD_eq_getElem?_getD, List.getElem?_set_ne (by omega), ← List.getD_eq_getElem?_getD]
                  exact HLs.out i hi
              · have h := Hset.out (UInt8.ofNat (((x : Int) + ((k : Int) + (j : Int) + 1)) % 256).toNat)
                rw [show (((UInt8.ofNat (((x : Int) + ((k : Int) + (j : Int) + 1)) % 256).toNat).toNat : Nat) : Int) = ((x : Int) + ((k : Int) + (j : Int) + 1)) % 256 by rw [UInt8.toNat_ofNat']; omega] at h
                rw [Hwz.out]
                exact h
            case measure => simp [intOf]; omega
          · obtain ⟨g, off, ai, rfl, c0⟩ := Hc.out.row hlt hnk
            obtain rfl : j = n1 := by omega
            clear hnk
            go_wp2
            go_roundw
            case rel => exact ⟨k + 1, Ls, hlt, by go_num, HLl.out, HLs.out, Hc.out⟩
            case measure => simp [intOf]; omega
      · obtain rfl : k = m := by omega
        have hfl : Ls.flatten.length = Ps.flatten.length := flatten_length_same Ls Ps (by rw [HLl.out, Hm.out]) (fun i hi => HLs.out i (by rw [← HLl.out]; exact hi))
        have hsum2 : k + (joinTo Ls k).length ≤ 32768 := by
          have h1 := Hsum.out
          rw [joinTo_all Ps Hm.out] at h1
          rw [joinTo_all Ls HLl.out]
          omega
        have hbw : Below w.heap.size w wr := Hb2.out.upd (Nat.le_refl _) Hc.out.upd (fun b hb => by omega)
        have hlb : ∀ i, i < k → (Ls.getD i []).length ≤ 32768 := fun i hi => by rw [HLs.out i hi]; exact Hle.out i hi
        have hfl2 : Ls.flatten.length ≤ 70368744177664 := by rw [hfl, ← Hn.out]; omega
        have Hfl := Lib.hid hfl
        have Hsum2 := Lib.hid hsum2
        have Hbw := Lib.hid hbw
        have Hlb := Lib.hid hlb
        clear hfl hsum2 hbw hlb
        go_wp2_with fail
        refine (copies_any wr af (k + 40) k Ls (Hc.out.parts HLl.out) HLl.out Hsum2.out).mono ?_
        rintro e w8 ⟨ar, cr, rfl, hpr, hb8⟩
        have Hpr := Lib.hid hpr
        have Hc8 := Lib.hid (Hc.out.kept hb8)
        have Hb8 := Lib.hid (Hbw.out.trans (hb8.mono Hbw.out.size))
        clear hpr hb8 Hc Hbw
        obtain ⟨C, hC⟩ : ∃ C, C = (bytes (sha Ls.flatten)).toArray := ⟨_, rfl⟩
        have q1 : ∀ w, (Op.equalIn 10000 26 (.agg C) (.agg C)).run Tryd.prog w = .ok true w := fun w => by rw [hC]; exact eq_sum _ (sha_length _) w
        have HC := Lib.hid hC
        clear hC
        go_wp2_with fail
        refine (SHA_at w8 (Hk.out.below Hb8.out) (Hbg.out.below Hb8.out) af (k + 40) k Ls (Hc8.out.parts HLl.out) HLl.out hfl2 (by omega)).mono ?_
        rintro e w9 ⟨rfl, hb9⟩
        rw [← HC.out]
        have Hpr9 := Lib.hid (Hpr.out.below hb9)
        have Hc9 := Lib.hid (Hc8.out.kept hb9)
        have Hb9 := Lib.hid (Hb8.out.trans (hb9.mono Hb8.out.size))
        clear hb9 Hpr Hc8 Hb8
        go_wp2_with fail
        refine (joined_any w9 ar cr k Ls Hpr9.out HLl.out Hsum2.out).mono ?_
        rintro e wa ⟨aq, cq, nq, rfl, hnq, hnq2, hsq, hba⟩
        have Hnq := Lib.hid hnq
        have Hsq := Lib.hid hsq
        have Hpra := Lib.hid (Hpr9.out.below hba)
        have Hca := Lib.hid (Hc9.out.kept hba)
        have Hba := Lib.hid (Hb9.out.trans (hba.mono Hb9.out.size))
        clear hba Hpr9 Hc9 Hb9 hnq hsq
        go_wp2_with fail
        refine (refSHA_any wa aq cq nq Ls.flatten Hsq.out Hnq.out.symm (by omega)).mono ?_
        rintro e wb ⟨rfl, hbb⟩
        rw [← HC.out]
        have Hprb := Lib.hid (Hpra.out.below hbb)
        have Hcb := Lib.hid (Hca.out.kept hbb)
        have Hbb := Lib.hid (Hba.out.trans (hbb.mono Hba.out.size))
        clear hbb Hpra Hca Hba
        go_wp2_with fail
        refine (sameLists_any wb af ar (k + 40) cr k Ls (Hcb.out.parts HLl.out) Hprb.out HLl.out (by omega)).mono ?_
        rintro e wc ⟨rfl, hbc⟩
        have Hcc := Lib.hid (Hcb.out.kept hbc)
        have Hbc := Lib.hid (Hbb.out.trans (hbc.mono Hbb.out.size))
        clear hbc Hcb Hbb
        go_wp2_with fail
        refine (hold_c w2 wc p k af cf ab aa av ad cb ca cv cd xb xa vs more Ls Hcc.out (by omega) Hlb.out).mono ?_
        rintro e wd ⟨rfl, nd, hwd⟩
        have Hwd := Lib.hid hwd
        clear hwd
        go_wp2
        go_ret
        exact ⟨rfl, by rw [Hwd.out]; exact ((Upd.below Hbc.out (fun _ => False)).drewN nd).toBelow (fun _ h => h.elim) (Nat.le_refl _)⟩
end Go.Proofs.YtefobboakikpbaaDoor
