/- The law TreeWalks answers true. -/
import Derived.Test.YthnbinlllmkabaaWs3
import Derived.Test.YthnbinlllmkabaaLaw1
namespace Go.Proofs.Ythnbinlllmkabaa
open Go.RowKit Go.Shelf
set_option linter.unusedVariables false
set_option linter.unusedSimpArgs false

/-- What the law knows when its tree is made. -/
structure W6 (w0 W : World) (b2 p d dt : Nat) (n : Nd) (a : Option Addr) (c : Nat) : Prop where
  box : W.heap[b2]? = some (.cells (n.row a c).toArray 30 (0, 0))
  src : NodeIn W (fun b => b < W.heap.size) d n a
  tree : TreeAt W (fun b => b < W.heap.size) dt p n
  low : Below w0.heap.size w0 W
theorem W6.below {w0 W W' : World} {b2 p d dt : Nat} {n : Nd} {a : Option Addr} {c : Nat} (h : W6 w0 W b2 p d dt n a c) (hb : Below W.heap.size W W') : W6 w0 W' b2 p d dt n a c :=
  ⟨(hb.block b2 (lt_heap h.box)).trans h.box, (h.src.below hb).mono (fun b hb' hl => hl), TreeAt.mono (fun b _ hl => hl) _ _ _ (h.tree.below hb), below_on h.low hb⟩
theorem run_store_func (P : Program) (w : World) (a : Addr) (m : Mode) (f : Fn) (x y : Array Value) : (store a (.func f x y) m).run P w = stored P w a (.func f x y) m := run_store P w a _ m rfl
attribute [local go_sem] run_store_func
theorem eql_c (w : World) (f : Fn) (x y : Array Value) : (binOp .eql 64 (.func f x y) .nilFunc).run Try.prog w = .ok (.bool false) w := by kernel_rfl
theorem eql_a (w : World) (f : Fn) (x y : Array Value) : (binOp .eql 67 (.func f x y) .nilFunc).run Try.prog w = .ok (.bool false) w := by kernel_rfl
theorem set1 {w : World} {b : Nat} {v : Value} (u : Value) {T : TypeId} (h : w.heap[b]? = some (.cells #[v] T (0, 0))) : (w.setCell ⟨b, 0, none⟩ u).heap[b]? = some (.cells #[u] T (0, 0)) := heap_setCell_same w b 0 _ _ u h
set_option maxHeartbeats 16000000 in
set_option maxRecDepth 100000 in
theorem walks_law (d : Nat) (w : World) (n : Nd) (a : Option Addr) (c : Nat) (stop : Int) (hn : NodeIn w (fun b => b < w.heap.size) d n a) (hst : i64 stop) :
    Calls Try.prog 4 #[.agg (n.row a c).toArray, .int .i64 stop] w fun e w' => e = .returned (.bool true) ∧ Below w.heap.size w w' := by
  have Hn := Lib.hid hn
  have h41 := Lib.hid (row_len (a := a) (c := c) hn.vwf)
  have h32 := Lib.hid hn.vwf.1
  clear hn
  go_enter Try.func4, Try.ntmps4
  have hbx := heap_alloc_new w (.cells (n.row a c).toArray 30)
  have Hr0 := Lib.hid (rangeAt_row hbx)
  have hb1 := on_alloc (Below.refl _ w) (.cells (n.row a c).toArray 30)
  go_wp2_with (first | (refine wpList_load_midg (by rfl) 30 (.tmp 2) rfl w.heap.size 0 rfl (n.row a c) _ Hr0.out Try.underlying30 rfl (by rw [h41.out]; kernel_rfl) ?_) | (refine wpList_buildSlice_eq (by rfl) 28 1 #[(0, .tmp 21)] rfl #[(0, .agg (n.row a c).toArray)] (by kernel_rfl) _ (build_node n a c h32.out _) ?_))
  clear Hr0
  have hs1 : (w.alloc (.cells (n.row a c).toArray 30)).heap.size = w.heap.size + 1 := World.size_alloc _ _
  generalize w.alloc (.cells (n.row a c).toArray 30) = w1 at hbx hb1 hs1 ⊢
  obtain ⟨b2, hb⟩ : ∃ b2, b2 = w.heap.size := ⟨_, rfl⟩
  rw [← hb] at hbx hs1
  rw [← hb]
  have Hb1 := Lib.hid hb1
  have Hbx := Lib.hid hbx
  have Hb := Lib.hid hb
  have hbl : b2 < w1.heap.size := lt_heap hbx
  clear hb1 hbx hb
  have hb2 := on_alloc (Below.refl _ w1) (.cells (n.row a c).toArray 30)
  have hsl := Sl.made w1 30 41 1 1 (n.row a c).toArray (0, 0) (n.row a c) (List.toList_toArray ..) (by rw [h41.out]) (by omega)
  generalize w1.alloc (.cells (n.row a c).toArray 30) = w2 at hb2 hsl ⊢
  have hn2 : NodeIn w2 (fun b => b < w2.heap.size) d n a := ((Hn.out.below Hb1.out).below hb2).mono (fun b _ hl => hl)
  have hks : KidsIn w2 (fun b => b < w2.heap.size) (d + 1) (some ⟨w1.heap.size, 0, none⟩) [n] := by
    refine KidsIn.ofRows (n := 1) (c := 1) (al := [(a, c)]) (by simpa [rowsOf] using hsl) ⟨rfl, fun i k a0 c0 h1 h2 => ?_⟩ (fun b hb _ => ?_)
    · cases i with
      | zero => simp at h1 h2; obtain ⟨rfl, rfl⟩ := h2; subst h1; exact hn2
      | succ i => simp at h1
    · obtain ⟨g, off, he, hg, _⟩ := hsl.open_ (by rw [h41.out]; omega)
      rw [he] at hb
      have : g = b := by simpa [Value.ownBlock] using hb
      omega
  have Hb2 := Lib.hid (below_on Hb1.out hb2)
  have Hb12 := Lib.hid hb2
  rw [hs1] at hks
  clear hn2 hsl hb2 hs1
  refine (few_any (fun b => b < w2.heap.size) (d + 1) w2 [n] 1 _ 1 hks (fun b hb => hb) rfl (by omega)).mono ?_
  clear hks
  rintro e w3 ⟨bf, rfl, hf, hb3⟩
  cases bf with
  | false =>
    have Hb3 := Lib.hid (below_on Hb2.out hb3)
    clear hf hb3
    go_wp2
    go_ret
    exact ⟨rfl, Hb3.out⟩
  | true =>
    have hp : n.parts ≤ 20000 := by have := hf rfl; simp [partsAll] at this; omega
    have hpt : n.parts ≤ 1000000 := Nat.le_trans hp (by decide)
    have Hpt := Lib.hid hpt
    have Hbx3 := Lib.hid ((hb3.block b2 (Nat.lt_of_lt_of_le hbl Hb12.out.size)).trans ((Hb12.out.block b2 hbl).trans Hbx.out))
    have Hr3 := Lib.hid (rangeAt_row Hbx3.out)
    have Hn3 := Lib.hid ((Hn.out.below Hb2.out).below hb3)
    have Hb3 := Lib.hid (below_on Hb2.out hb3)
    obtain ⟨P, hP⟩ : ∃ P, P = (chk n ⟨#[]⟩ 0).1 := ⟨_, rfl⟩
    obtain ⟨E, hE⟩ : ∃ E, E = (chk n ⟨#[]⟩ 0).2 := ⟨_, rfl⟩
    have href := refChk_any w3 _ d n a c Hn3.out hpt
    rw [← hP, ← hE] at href
    have Href := Lib.hid href
    have HE := Lib.hid hE
    clear hf hb3 hp hpt hP hE href
    go_wp2_with (refine wpList_load_midg (by rfl) 30 (.tmp 2) rfl b2 0 rfl (n.row a c) _ Hr3.out Try.underlying30 rfl (by rw [h41.out]; kernel_rfl) ?_)
    refine Href.out.mono ?_
    rintro e w4 ⟨rfl, hb4⟩
    have Hb4 := Lib.hid (below_on Hb3.out hb4)
    by_cases hE0 : E = 0
    · have Hbx4 := Lib.hid ((hb4.block b2 (lt_heap Hbx3.out)).trans Hbx3.out)
      have Hr4 := Lib.hid (rangeAt_row Hbx4.out)
      have Hn4 := Lib.hid ((Hn3.out.below hb4).mono (G := fun b => b < w4.heap.size) (fun b _ hl => hl))
      have Hkd := Lib.hid (kinded_of n ⟨#[]⟩ 0 (by rw [← HE.out]; exact hE0))
      have hof := Lib.hid (of_good w4 _ d n a c Hn4.out (fun b hb => hb) Hpt.out (by rw [chkErr, ← HE.out]; exact hE0))
      subst hE0
      clear hb4
      go_wp2_with (refine wpList_load_midg (by rfl) 30 (.tmp 2) rfl b2 0 rfl (n.row a c) _ Hr4.out Try.underlying30 rfl (by rw [h41.out]; kernel_rfl) ?_)
      refine hof.out.mono ?_
      rintro e w5 ⟨p, rfl, ht5, hb5⟩
      have H6 := Lib.hid (show W6 w w5 b2 p d (d + 1) n a c from ⟨(hb5.block b2 (lt_heap Hbx4.out)).trans Hbx4.out, (Hn4.out.below hb5).mono (fun b _ hl => hl), TreeAt.mono (fun b _ hl => hl) _ _ _ ht5, below_on Hb4.out hb5⟩)
      clear ht5 hb5 Hr4 Hr3
      go_wp2_with (go_at_call 19; refine (children_any _ p).mono ?_; rintro e w' ⟨rfl, rfl⟩)
      refine (all_any _ p).mono ?_
      rintro e w' ⟨rfl, rfl⟩
      have htc0 := (Below.heap_alloc (w5.alloc (.cells #[.pointer (some ⟨p, 0, none⟩)] 55)) (.cells #[.pointer (some ⟨p, 0, none⟩)] 55) w5.heap.size (by simp)).trans (heap_alloc_new w5 (.cells #[.pointer (some ⟨p, 0, none⟩)] 55))
      have hta0 := heap_alloc_new (w5.alloc (.cells #[.pointer (some ⟨p, 0, none⟩)] 55)) (.cells #[.pointer (some ⟨p, 0, none⟩)] 55)
      rw [World.size_alloc] at hta0
      have h7 := H6.out.below (on_alloc (on_alloc (Below.refl _ w5) (.cells #[.pointer (some ⟨p, 0, none⟩)] 55)) (.cells #[.pointer (some ⟨p, 0, none⟩)] 55))
      generalize (w5.alloc (.cells #[.pointer (some ⟨p, 0, none⟩)] 55)).alloc (.cells #[.pointer (some ⟨p, 0, none⟩)] 55) = w7 at htc0 hta0 h7 ⊢
      obtain ⟨tc, htcE⟩ : ∃ tc, tc = w5.heap.size := ⟨_, rfl⟩
      obtain ⟨ta, htaE⟩ : ∃ ta, ta = w5.heap.size + 1 := ⟨_, rfl⟩
      rw [← htcE] at htc0
      rw [← htaE] at hta0
      (try rw [World.size_alloc])
      rw [← htaE, ← htcE]
      have H7 := Lib.hid h7
      have Htc := Lib.hid htc0
      have Hta := Lib.hid hta0
      clear htc0 hta0 h7 htcE htaE H6
      have k9 := (Below.heap_alloc (w7.alloc (.cells #[.nilFunc] 64)) (.cells #[.nilFunc] 67) w7.heap.size (by simp)).trans (heap_alloc_new w7 (.cells #[.nilFunc] 64))
      have k10 := heap_alloc_new (w7.alloc (.cells #[.nilFunc] 64)) (.cells #[.nilFunc] 67)
      rw [World.size_alloc] at k10
      have f9 := cell1 k9
      have z9 := frozen_of_row _ w7.heap.size 0 _ _ k9
      have u9 : Upd (fun b => b = w7.heap.size) ((w7.alloc (.cells #[.nilFunc] 64)).alloc (.cells #[.nilFunc] 67)) (((w7.alloc (.cells #[.nilFunc] 64)).alloc (.cells #[.nilFunc] 67)).setCell ⟨w7.heap.size, 0, none⟩ (.func (.func 78) #[] #[.pointer (some ⟨tc, 0, none⟩)])) := (Upd.refl _ _).setCell _ _ (fun _ => rfl)
      have k9' := set1 (.func (.func 78) #[] #[.pointer (some ⟨tc, 0, none⟩)]) k9
      have k10' := u9.at_ k10 (by omega)
      have f10 := cell1 k10'
      have z10 := frozen_of_row _ (w7.heap.size + 1) 0 _ _ k10'
      have j9 := (Below.heap_alloc (w7.alloc (.cells #[(.func (.func 78) #[] #[.pointer (some ⟨tc, 0, none⟩)])] 64)) (.cells #[(.func (.func 79) #[] #[.pointer (some ⟨ta, 0, none⟩)])] 67) w7.heap.size (by simp)).trans (heap_alloc_new w7 (.cells #[(.func (.func 78) #[] #[.pointer (some ⟨tc, 0, none⟩)])] 64))
      have j10 := heap_alloc_new (w7.alloc (.cells #[(.func (.func 78) #[] #[.pointer (some ⟨tc, 0, none⟩)])] 64)) (.cells #[(.func (.func 79) #[] #[.pointer (some ⟨ta, 0, none⟩)])] 67)
      rw [World.size_alloc] at j10
      have g9 := cell1 j9
      have g10 := cell1 j10
      have b8 := on_alloc (on_alloc (Below.refl _ w7) (.cells #[(.func (.func 78) #[] #[.pointer (some ⟨tc, 0, none⟩)])] 64)) (.cells #[(.func (.func 79) #[] #[.pointer (some ⟨ta, 0, none⟩)])] 67)
      have hs8 : ((w7.alloc (.cells #[(.func (.func 78) #[] #[.pointer (some ⟨tc, 0, none⟩)])] 64)).alloc (.cells #[(.func (.func 79) #[] #[.pointer (some ⟨ta, 0, none⟩)])] 67)).heap.size = w7.heap.size + 2 := by simp
      have K9 := Lib.hid j9
      have K10 := Lib.hid j10
      have B8 := Lib.hid b8
      have hec := eql_c
      have hea := eql_a
      clear k9 k10 u9 k9' k10' j10 j9 b8
      have H8 := Lib.hid (H7.out.below B8.out)
      have Ht8 := Lib.hid (And.intro ((B8.out.block tc (lt_heap Htc.out)).trans Htc.out) ((B8.out.block ta (lt_heap Hta.out)).trans Hta.out))
      go_wp2_with fail
      obtain ⟨b9, hb9⟩ : ∃ b, b = w7.heap.size := ⟨_, rfl⟩
      obtain ⟨b10, hb10⟩ : ∃ b, b = w7.heap.size + 1 := ⟨_, rfl⟩
      have K9' := K9.out
      have K10' := K10.out
      have H8' := H8.out
      have Ht8' := Ht8.out
      generalize (w7.alloc (.cells #[(.func (.func 78) #[] #[.pointer (some ⟨tc, 0, none⟩)])] 64)).alloc (.cells #[(.func (.func 79) #[] #[.pointer (some ⟨ta, 0, none⟩)])] 67) = w8 at K9' K10' H8' Ht8' ⊢
      rw [← hb9] at K9'
      rw [← hb10] at K10'
      rw [← hb10, ← hb9]
      have K9 := Lib.hid K9'
      have K10 := Lib.hid K10'
      have H8 := Lib.hid H8'
      have Ht8 := Lib.hid Ht8'
      clear f9 z9 g9 g10 hs8 K9' K10' H8' Ht8' hb9 hb10 B8 H7
      obtain ⟨L, hL⟩ : ∃ L, L = allOf n ⟨#[]⟩ := ⟨_, rfl⟩
      have HAll := Lib.hid (show ∀ wc, W6 w wc b2 p d (d + 1) n a c → Calls Try.prog 21 #[.agg (n.row a c).toArray] wc fun e w' => ∃ (a' : Option Addr) (c' : Nat), e = .returned (.slice a' L.length c') ∧ Own w' 78 40 (.slice a' L.length c') L.length (srows L) ∧ Below wc.heap.size wc w' from fun wc h => (refAll_ok _ d wc n a c h.src (fun b hb => hb) Hpt.out).mono (by
        rintro e w' ⟨a', c', rfl, h1, h2, h3⟩
        rw [hL]
        exact ⟨a', c', rfl, h1, h3⟩))
      have HNam := Lib.hid (show ∀ wc, W6 w wc b2 p d (d + 1) n a c → Calls Try.prog 22 #[.agg (n.row a c).toArray] wc fun e w' => ∃ (a' : Option Addr) (c' : Nat), e = .returned (.slice a' n.kids.length c') ∧ Own w' 9 1 (.slice a' n.kids.length c') n.kids.length (strs (n.kids.map Nd.name)) ∧ Below wc.heap.size wc w' from fun wc h => (refNames_ok _ d wc n a c h.src Hpt.out).mono (by
        rintro e w' ⟨a', c', rfl, h1, h2, h3⟩
        exact ⟨a', c', rfl, h1, h3⟩))
      have HL := Lib.hid hL
      clear hL
      have hr8 := rangeAt_row H8.out.box
      have Hr8 := Lib.hid (show ∀ wc, Below w8.heap.size w8 wc → wc.rangeAt b2 0 (n.row a c) from fun wc hb => rangeAt_kept hr8 (Upd.below hb (fun _ => False)) id)
      have inf41 : (Try.prog.info? 30).map (·.size) = some (n.row a c).length := by rw [h41.out]; kernel_rfl
      have und41 := Try.underlying30
      clear hr8
      refine region_then (S := fun w' => w'.rangeAt b2 0 (n.row a c)) (by kernel_rfl) (fun a0 a' w9 => ∃ (a1 : Option Addr) (c1 : Nat) (a2 : Option Addr) (c2 g11 g12 : Nat), a' = { tmps := (((((a0.tmps.setIfInBounds 53 (.agg (n.row a c).toArray)).setIfInBounds 54 (.slice a1 L.length c1)).setIfInBounds 55 (.agg (n.row a c).toArray)).setIfInBounds 56 (.slice a2 n.kids.length c2)).setIfInBounds 11 (.pointer (some ⟨g11, 0, none⟩))).setIfInBounds 12 (.pointer (some ⟨g12, 0, none⟩)), defers := a0.defers } ∧
        Below w8.heap.size w8 w9 ∧ Own w9 78 40 (.slice a1 L.length c1) L.length (srows L) ∧ Own w9 9 1 (.slice a2 n.kids.length c2) n.kids.length (strs (n.kids.map Nd.name)) ∧ w9.heap[g11]? = some (.cells #[.slice a1 L.length c1] 69 (0, 0)) ∧ w9.heap[g12]? = some (.cells #[.slice a2 n.kids.length c2] 71 (0, 0))) ?reg ?aft
      case reg =>
        have Hlow := Lib.hid (show Below w8.heap.size w8 w8.drew from on_drew (Below.refl _ _))
        generalize w8.drew = v0 at Hlow ⊢
        refine' wpAnyH_take (i := 0) (v := .agg (n.row a c).toArray) rfl (by kernel_rfl) (by kernel_rfl) (by kernel_rfl) (fun _ _ _ h => nomatch h.1) (yieldsIf_load_mid (by rfl) _ _ rfl _ _ rfl _ _ ?zS0 ?zu0 ?zd0 ?zi0) (Hr8.out _ Hlow.out) ?zr0
        case zS0 => (intro w hSw; exact hSw)
        case zu0 => assumption
        case zd0 => rfl
        case zi0 => first | assumption | (simp only [*]; done)
        (try simp only [List.getElem_toArray, List.getElem_cons_succ, List.getElem_cons_zero, Act.put, List.setIfInBounds_toArray, List.set_cons_zero, List.set_cons_succ])
        refine' wpAnyH_take (i := 2) (v := .agg (n.row a c).toArray) rfl (by kernel_rfl) (by kernel_rfl) (by kernel_rfl) (fun _ _ _ h => nomatch h.1) (yieldsIf_load_mid (by rfl) _ _ rfl _ _ rfl _ _ ?zS1 ?zu1 ?zd1 ?zi1) (Hr8.out _ Hlow.out) ?zr1
        case zS1 => (intro w hSw; exact hSw)
        case zu1 => assumption
        case zd1 => rfl
        case zi1 => first | assumption | (simp only [*]; done)
        (try simp only [List.getElem_toArray, List.getElem_cons_succ, List.getElem_cons_zero, Act.put, List.setIfInBounds_toArray, List.set_cons_zero, List.set_cons_succ])
        refine wpAnyH_ready (rs := [1, 4, 5]) (by kernel_rfl) (by simp) ?_
        refine AllReadyH.cons rfl (fun K hK => ?_) ?_
        · go_simp
          go_at_call 21
          refine (HAll.out v0 (H8.out.below Hlow.out)).mono ?_
          rintro e v3 ⟨a1, c1, rfl, ho, hb⟩
          have Ho1v3 := Lib.hid ho
          have Hlowv3 := Lib.hid (below_on Hlow.out hb)
          clear ho hb
          (try go_wp2_with fail)
          refine hK.out _ _ (Hr8.out _ Hlowv3.out) (fun _ => ?_)
          clear hK K
          (try simp only [List.getElem_toArray, List.getElem_cons_succ, List.getElem_cons_zero, Act.put, List.setIfInBounds_toArray, List.set_cons_zero, List.set_cons_succ])
          refine wpAnyH_ready (rs := [3, 4, 5]) (by kernel_rfl) (by simp) ?_
          refine AllReadyH.cons rfl (fun K hK => ?_) ?_
          · go_simp
            go_at_call 22
            refine (HNam.out v3 (H8.out.below Hlowv3.out)).mono ?_
            rintro e v4 ⟨a2, c2, rfl, ho, hb⟩
            have Ho2v4 := Lib.hid ho
            have Hlowv4 := Lib.hid (below_on Hlowv3.out hb)
            have Ho1v4 := Lib.hid (Ho1v3.out.below_ hb)
            clear ho hb
            (try go_wp2_with fail)
            refine hK.out _ _ (Hr8.out _ Hlowv4.out) (fun _ => ?_)
            clear hK K
            (try simp only [List.getElem_toArray, List.getElem_cons_succ, List.getElem_cons_zero, Act.put, List.setIfInBounds_toArray, List.set_cons_zero, List.set_cons_succ])
            refine wpAnyH_ready (rs := [4, 5]) (by kernel_rfl) (by simp) ?_
            refine AllReadyH.cons rfl (fun K hK => ?_) ?_
            · go_simp
              have hb := on_alloc (Below.refl _ v4) (.cells #[.slice none 0 0] 69)
              have hg := heap_alloc_new v4 (.cells #[.slice none 0 0] 69)
              obtain ⟨G11, hG11⟩ : ∃ G, G = v4.heap.size := ⟨_, rfl⟩
              generalize v4.alloc (.cells #[.slice none 0 0] 69) = v5 at hb hg ⊢
              rw [← hG11] at hg
              rw [← hG11]
              have Hg1v5 := Lib.hid hg
              have Hlowv5 := Lib.hid (below_on Hlowv4.out hb)
              have Ho1v5 := Lib.hid (Ho1v4.out.below_ hb)
              have Ho2v5 := Lib.hid (Ho2v4.out.below_ hb)
              have HG11 := Lib.hid hG11
              clear hb hg hG11
              have HL11 := Lib.hid (show w8.heap.size ≤ G11 by rw [HG11.out]; exact Hlowv4.out.size)
              refine hK.out _ _ (Hr8.out _ Hlowv5.out) (fun _ => ?_)
              clear hK K
              (try simp only [List.getElem_toArray, List.getElem_cons_succ, List.getElem_cons_zero, Act.put, List.setIfInBounds_toArray, List.set_cons_zero, List.set_cons_succ])
              refine wpAnyH_ready (rs := [5]) (by kernel_rfl) (by simp) ?_
              refine AllReadyH.cons rfl (fun K hK => ?_) ?_
              · go_simp
                have hb := on_alloc (Below.refl _ v5) (.cells #[.slice none 0 0] 71)
                have hg := heap_alloc_new v5 (.cells #[.slice none 0 0] 71)
                obtain ⟨G12, hG12⟩ : ∃ G, G = v5.heap.size := ⟨_, rfl⟩
                generalize v5.alloc (.cells #[.slice none 0 0] 71) = v6 at hb hg ⊢
                rw [← hG12] at hg
                rw [← hG12]
                have Hg2v6 := Lib.hid hg
                have Hlowv6 := Lib.hid (below_on Hlowv5.out hb)
                have Ho1v6 := Lib.hid (Ho1v5.out.below_ hb)
                have Ho2v6 := Lib.hid (Ho2v5.out.below_ hb)
                have Hg1v6 := Lib.hid ((hb.block _ (lt_heap Hg1v5.out)).trans Hg1v5.out)
                have HG12 := Lib.hid hG12
                clear hb hg hG12
                have HL12 := Lib.hid (show w8.heap.size ≤ G12 by rw [HG12.out]; exact Hlowv5.out.size)
                refine hK.out _ _ (Hr8.out _ Hlowv6.out) (fun _ => ?_)
                clear hK K
                (try simp only [List.getElem_toArray, List.getElem_cons_succ, List.getElem_cons_zero, Act.put, List.setIfInBounds_toArray, List.set_cons_zero, List.set_cons_succ])
                refine wpAnyH_ready (rs := [6]) (by kernel_rfl) (by simp) ?_
                refine AllReadyH.cons rfl (fun K hK => ?_) ?_
                · have fg := cell1 Hg1v6.out
                  have zg := frozen_of_row _ _ 0 _ _ Hg1v6.out
                  go_simp
                  have hu : Upd (fun b => b = G11) v6 (v6.setCell ⟨G11, 0, none⟩ (.slice a1 L.length c1)) := (Upd.refl _ _).setCell _ _ (fun _ => rfl)
                  have hs := set1 (.slice a1 L.length c1) Hg1v6.out
                  generalize v6.setCell ⟨G11, 0, none⟩ (.slice a1 L.length c1) = v7 at hu hs ⊢
                  have Hg1v7 := Lib.hid hs
                  have Ho1v7 := Lib.hid (Ho1v6.out.kept hu (fun b hb e => (Ho1v6.out.apart Hg1v6.out (by decide)) (e ▸ hb)))
                  have Ho2v7 := Lib.hid (Ho2v6.out.kept hu (fun b hb e => (Ho2v6.out.apart Hg1v6.out (by decide)) (e ▸ hb)))
                  have Hlowv7 := Lib.hid (Hlowv6.out.upd (Nat.le_refl _) hu (fun b hb => by rw [hb]; exact HL11.out))
                  have Hg2v7 := Lib.hid (hu.at_ Hg2v6.out (fun e => by
                    have q1 := Hg2v6.out
                    rw [e, Hg1v6.out] at q1
                    injection q1 with q1
                    injection q1 with _ hT _
                    exact absurd hT (by decide)))
                  clear fg zg hu hs
                  refine hK.out _ _ (Hr8.out _ Hlowv7.out) (fun _ => ?_)
                  clear hK K
                  (try simp only [List.getElem_toArray, List.getElem_cons_succ, List.getElem_cons_zero, Act.put, List.setIfInBounds_toArray, List.set_cons_zero, List.set_cons_succ])
                  refine wpAnyH_ready (rs := [7]) (by kernel_rfl) (by simp) ?_
                  refine AllReadyH.cons rfl (fun K hK => ?_) ?_
                  · have fg := cell1 Hg2v7.out
                    have zg := frozen_of_row _ _ 0 _ _ Hg2v7.out
                    go_simp
                    have hu : Upd (fun b => b = G12) v7 (v7.setCell ⟨G12, 0, none⟩ (.slice a2 n.kids.length c2)) := (Upd.refl _ _).setCell _ _ (fun _ => rfl)
                    have hs := set1 (.slice a2 n.kids.length c2) Hg2v7.out
                    generalize v7.setCell ⟨G12, 0, none⟩ (.slice a2 n.kids.length c2) = v8 at hu hs ⊢
                    have Hg2v8 := Lib.hid hs
                    have Ho1v8 := Lib.hid (Ho1v7.out.kept hu (fun b hb e => (Ho1v7.out.apart Hg2v7.out (by decide)) (e ▸ hb)))
                    have Ho2v8 := Lib.hid (Ho2v7.out.kept hu (fun b hb e => (Ho2v7.out.apart Hg2v7.out (by decide)) (e ▸ hb)))
                    have Hlowv8 := Lib.hid (Hlowv7.out.upd (Nat.le_refl _) hu (fun b hb => by rw [hb]; exact HL12.out))
                    have Hg1v8 := Lib.hid (hu.at_ Hg1v7.out (fun e => by
                      have q1 := Hg1v7.out
                      rw [e, Hg2v7.out] at q1
                      injection q1 with q1
                      injection q1 with _ hT _
                      exact absurd hT (by decide)))
                    clear fg zg hu hs
                    refine hK.out _ _ (Hr8.out _ Hlowv8.out) (fun _ => ?_)
                    clear hK K
                    (try simp only [List.getElem_toArray, List.getElem_cons_succ, List.getElem_cons_zero, Act.put, List.setIfInBounds_toArray, List.set_cons_zero, List.set_cons_succ])
                    refine wpAnyH_done (by kernel_rfl) ?_ _
                    exact ⟨rfl, a1, c1, a2, c2, G11, G12, by simp only [List.setIfInBounds_toArray, List.set_cons_zero, List.set_cons_succ], Hlowv8.out, Ho1v8.out, Ho2v8.out, Hg1v8.out, Hg2v8.out⟩
                  exact AllReadyH.nil
                exact AllReadyH.nil
              exact AllReadyH.nil
            refine AllReadyH.cons rfl (fun K hK => ?_) ?_
            · go_simp
              have hb := on_alloc (Below.refl _ v4) (.cells #[.slice none 0 0] 71)
              have hg := heap_alloc_new v4 (.cells #[.slice none 0 0] 71)
              obtain ⟨G12, hG12⟩ : ∃ G, G = v4.heap.size := ⟨_, rfl⟩
              generalize v4.alloc (.cells #[.slice none 0 0] 71) = v9 at hb hg ⊢
              rw [← hG12] at hg
              rw [← hG12]
              have Hg2v9 := Lib.hid hg
              have Hlowv9 := Lib.hid (below_on Hlowv4.out hb)
              have Ho1v9 := Lib.hid (Ho1v4.out.below_ hb)
              have Ho2v9 := Lib.hid (Ho2v4.out.below_ hb)
              have HG12 := Lib.hid hG12
              clear hb hg hG12
              have HL12 := Lib.hid (show w8.heap.size ≤ G12 by rw [HG12.out]; exact Hlowv4.out.size)
              refine hK.out _ _ (Hr8.out _ Hlowv9.out) (fun _ => ?_)
              clear hK K
              (try simp only [List.getElem_toArray, List.getElem_cons_succ, List.getElem_cons_zero, Act.put, List.setIfInBounds_toArray, List.set_cons_zero, List.set_cons_succ])
              refine wpAnyH_ready (rs := [4]) (by kernel_rfl) (by simp) ?_
              refine AllReadyH.cons rfl (fun K hK => ?_) ?_
              · go_simp
                have hb := on_alloc (Below.refl _ v9) (.cells #[.slice none 0 0] 69)
                have hg := heap_alloc_new v9 (.cells #[.slice none 0 0] 69)
                obtain ⟨G11, hG11⟩ : ∃ G, G = v9.heap.size := ⟨_, rfl⟩
                generalize v9.alloc (.cells #[.slice none 0 0] 69) = v10 at hb hg ⊢
                rw [← hG11] at hg
                rw [← hG11]
                have Hg1v10 := Lib.hid hg
                have Hlowv10 := Lib.hid (below_on Hlowv9.out hb)
                have Ho1v10 := Lib.hid (Ho1v9.out.below_ hb)
                have Ho2v10 := Lib.hid (Ho2v9.out.below_ hb)
                have Hg2v10 := Lib.hid ((hb.block _ (lt_heap Hg2v9.out)).trans Hg2v9.out)
                have HG11 := Lib.hid hG11
                clear hb hg hG11
                have HL11 := Lib.hid (show w8.heap.size ≤ G11 by rw [HG11.out]; exact Hlowv9.out.size)
                refine hK.out _ _ (Hr8.out _ Hlowv10.out) (fun _ => ?_)
                clear hK K
                (try simp only [List.getElem_toArray, List.getElem_cons_succ, List.getElem_cons_zero, Act.put, List.setIfInBounds_toArray, List.set_cons_zero, List.set_cons_succ])
                refine wpAnyH_ready (rs := [6]) (by kernel_rfl) (by simp) ?_
                refine AllReadyH.cons rfl (fun K hK => ?_) ?_
                · have fg := cell1 Hg1v10.out
                  have zg := frozen_of_row _ _ 0 _ _ Hg1v10.out
                  go_simp
                  have hu : Upd (fun b => b = G11) v10 (v10.setCell ⟨G11, 0, none⟩ (.slice a1 L.length c1)) := (Upd.refl _ _).setCell _ _ (fun _ => rfl)
                  have hs := set1 (.slice a1 L.length c1) Hg1v10.out
                  generalize v10.setCell ⟨G11, 0, none⟩ (.slice a1 L.length c1) = v11 at hu hs ⊢
                  have Hg1v11 := Lib.hid hs
                  have Ho1v11 := Lib.hid (Ho1v10.out.kept hu (fun b hb e => (Ho1v10.out.apart Hg1v10.out (by decide)) (e ▸ hb)))
                  have Ho2v11 := Lib.hid (Ho2v10.out.kept hu (fun b hb e => (Ho2v10.out.apart Hg1v10.out (by decide)) (e ▸ hb)))
                  have Hlowv11 := Lib.hid (Hlowv10.out.upd (Nat.le_refl _) hu (fun b hb => by rw [hb]; exact HL11.out))
                  have Hg2v11 := Lib.hid (hu.at_ Hg2v10.out (fun e => by
                    have q1 := Hg2v10.out
                    rw [e, Hg1v10.out] at q1
                    injection q1 with q1
                    injection q1 with _ hT _
                    exact absurd hT (by decide)))
                  clear fg zg hu hs
                  refine hK.out _ _ (Hr8.out _ Hlowv11.out) (fun _ => ?_)
                  clear hK K
                  (try simp only [List.getElem_toArray, List.getElem_cons_succ, List.getElem_cons_zero, Act.put, List.setIfInBounds_toArray, List.set_cons_zero, List.set_cons_succ])
                  refine wpAnyH_ready (rs := [7]) (by kernel_rfl) (by simp) ?_
                  refine AllReadyH.cons rfl (fun K hK => ?_) ?_
                  · have fg := cell1 Hg2v11.out
                    have zg := frozen_of_row _ _ 0 _ _ Hg2v11.out
                    go_simp
                    have hu : Upd (fun b => b = G12) v11 (v11.setCell ⟨G12, 0, none⟩ (.slice a2 n.kids.length c2)) := (Upd.refl _ _).setCell _ _ (fun _ => rfl)
                    have hs := set1 (.slice a2 n.kids.length c2) Hg2v11.out
                    generalize v11.setCell ⟨G12, 0, none⟩ (.slice a2 n.kids.length c2) = v12 at hu hs ⊢
                    have Hg2v12 := Lib.hid hs
                    have Ho1v12 := Lib.hid (Ho1v11.out.kept hu (fun b hb e => (Ho1v11.out.apart Hg2v11.out (by decide)) (e ▸ hb)))
                    have Ho2v12 := Lib.hid (Ho2v11.out.kept hu (fun b hb e => (Ho2v11.out.apart Hg2v11.out (by decide)) (e ▸ hb)))
                    have Hlowv12 := Lib.hid (Hlowv11.out.upd (Nat.le_refl _) hu (fun b hb => by rw [hb]; exact HL12.out))
                    have Hg1v12 := Lib.hid (hu.at_ Hg1v11.out (fun e => by
                      have q1 := Hg1v11.out
                      rw [e, Hg2v11.out] at q1
                      injection q1 with q1
                      injection q1 with _ hT _
                      exact absurd hT (by decide)))
                    clear fg zg hu hs
                    refine hK.out _ _ (Hr8.out _ Hlowv12.out) (fun _ => ?_)
                    clear hK K
                    (try simp only [List.getElem_toArray, List.getElem_cons_succ, List.getElem_cons_zero, Act.put, List.setIfInBounds_toArray, List.set_cons_zero, List.set_cons_succ])
                    refine wpAnyH_done (by kernel_rfl) ?_ _
                    exact ⟨rfl, a1, c1, a2, c2, G11, G12, by simp only [List.setIfInBounds_toArray, List.set_cons_zero, List.set_cons_succ], Hlowv12.out, Ho1v12.out, Ho2v12.out, Hg1v12.out, Hg2v12.out⟩
                  exact AllReadyH.nil
                exact AllReadyH.nil
              exact AllReadyH.nil
            exact AllReadyH.nil
          refine AllReadyH.cons rfl (fun K hK => ?_) ?_
          · go_simp
            have hb := on_alloc (Below.refl _ v3) (.cells #[.slice none 0 0] 69)
            have hg := heap_alloc_new v3 (.cells #[.slice none 0 0] 69)
            obtain ⟨G11, hG11⟩ : ∃ G, G = v3.heap.size := ⟨_, rfl⟩
            generalize v3.alloc (.cells #[.slice none 0 0] 69) = v13 at hb hg ⊢
            rw [← hG11] at hg
            rw [← hG11]
            have Hg1v13 := Lib.hid hg
            have Hlowv13 := Lib.hid (below_on Hlowv3.out hb)
            have Ho1v13 := Lib.hid (Ho1v3.out.below_ hb)
            have HG11 := Lib.hid hG11
            clear hb hg hG11
            have HL11 := Lib.hid (show w8.heap.size ≤ G11 by rw [HG11.out]; exact Hlowv3.out.size)
            refine hK.out _ _ (Hr8.out _ Hlowv13.out) (fun _ => ?_)
            clear hK K
            (try simp only [List.getElem_toArray, List.getElem_cons_succ, List.getElem_cons_zero, Act.put, List.setIfInBounds_toArray, List.set_cons_zero, List.set_cons_succ])
            refine wpAnyH_ready (rs := [3, 5]) (by kernel_rfl) (by simp) ?_
            refine AllReadyH.cons rfl (fun K hK => ?_) ?_
            · go_simp
              go_at_call 22
              refine (HNam.out v13 (H8.out.below Hlowv13.out)).mono ?_
              rintro e v14 ⟨a2, c2, rfl, ho, hb⟩
              have Ho2v14 := Lib.hid ho
              have Hlowv14 := Lib.hid (below_on Hlowv13.out hb)
              have Ho1v14 := Lib.hid (Ho1v13.out.below_ hb)
              have Hg1v14 := Lib.hid ((hb.block _ (lt_heap Hg1v13.out)).trans Hg1v13.out)
              clear ho hb
              (try go_wp2_with fail)
              refine hK.out _ _ (Hr8.out _ Hlowv14.out) (fun _ => ?_)
              clear hK K
              (try simp only [List.getElem_toArray, List.getElem_cons_succ, List.getElem_cons_zero, Act.put, List.setIfInBounds_toArray, List.set_cons_zero, List.set_cons_succ])
              refine wpAnyH_ready (rs := [5]) (by kernel_rfl) (by simp) ?_
              refine AllReadyH.cons rfl (fun K hK => ?_) ?_
              · go_simp
                have hb := on_alloc (Below.refl _ v14) (.cells #[.slice none 0 0] 71)
                have hg := heap_alloc_new v14 (.cells #[.slice none 0 0] 71)
                obtain ⟨G12, hG12⟩ : ∃ G, G = v14.heap.size := ⟨_, rfl⟩
                generalize v14.alloc (.cells #[.slice none 0 0] 71) = v15 at hb hg ⊢
                rw [← hG12] at hg
                rw [← hG12]
                have Hg2v15 := Lib.hid hg
                have Hlowv15 := Lib.hid (below_on Hlowv14.out hb)
                have Ho1v15 := Lib.hid (Ho1v14.out.below_ hb)
                have Ho2v15 := Lib.hid (Ho2v14.out.below_ hb)
                have Hg1v15 := Lib.hid ((hb.block _ (lt_heap Hg1v14.out)).trans Hg1v14.out)
                have HG12 := Lib.hid hG12
                clear hb hg hG12
                have HL12 := Lib.hid (show w8.heap.size ≤ G12 by rw [HG12.out]; exact Hlowv14.out.size)
                refine hK.out _ _ (Hr8.out _ Hlowv15.out) (fun _ => ?_)
                clear hK K
                (try simp only [List.getElem_toArray, List.getElem_cons_succ, List.getElem_cons_zero, Act.put, List.setIfInBounds_toArray, List.set_cons_zero, List.set_cons_succ])
                refine wpAnyH_ready (rs := [6]) (by kernel_rfl) (by simp) ?_
                refine AllReadyH.cons rfl (fun K hK => ?_) ?_
                · have fg := cell1 Hg1v15.out
                  have zg := frozen_of_row _ _ 0 _ _ Hg1v15.out
                  go_simp
                  have hu : Upd (fun b => b = G11) v15 (v15.setCell ⟨G11, 0, none⟩ (.slice a1 L.length c1)) := (Upd.refl _ _).setCell _ _ (fun _ => rfl)
                  have hs := set1 (.slice a1 L.length c1) Hg1v15.out
                  generalize v15.setCell ⟨G11, 0, none⟩ (.slice a1 L.length c1) = v16 at hu hs ⊢
                  have Hg1v16 := Lib.hid hs
                  have Ho1v16 := Lib.hid (Ho1v15.out.kept hu (fun b hb e => (Ho1v15.out.apart Hg1v15.out (by decide)) (e ▸ hb)))
                  have Ho2v16 := Lib.hid (Ho2v15.out.kept hu (fun b hb e => (Ho2v15.out.apart Hg1v15.out (by decide)) (e ▸ hb)))
                  have Hlowv16 := Lib.hid (Hlowv15.out.upd (Nat.le_refl _) hu (fun b hb => by rw [hb]; exact HL11.out))
                  have Hg2v16 := Lib.hid (hu.at_ Hg2v15.out (fun e => by
                    have q1 := Hg2v15.out
                    rw [e, Hg1v15.out] at q1
                    injection q1 with q1
                    injection q1 with _ hT _
                    exact absurd hT (by decide)))
                  clear fg zg hu hs
                  refine hK.out _ _ (Hr8.out _ Hlowv16.out) (fun _ => ?_)
                  clear hK K
                  (try simp only [List.getElem_toArray, List.getElem_cons_succ, List.getElem_cons_zero, Act.put, List.setIfInBounds_toArray, List.set_cons_zero, List.set_cons_succ])
                  refine wpAnyH_ready (rs := [7]) (by kernel_rfl) (by simp) ?_
                  refine AllReadyH.cons rfl (fun K hK => ?_) ?_
                  · have fg := cell1 Hg2v16.out
                    have zg := frozen_of_row _ _ 0 _ _ Hg2v16.out
                    go_simp
                    have hu : Upd (fun b => b = G12) v16 (v16.setCell ⟨G12, 0, none⟩ (.slice a2 n.kids.length c2)) := (Upd.refl _ _).setCell _ _ (fun _ => rfl)
                    have hs := set1 (.slice a2 n.kids.length c2) Hg2v16.out
                    generalize v16.setCell ⟨G12, 0, none⟩ (.slice a2 n.kids.length c2) = v17 at hu hs ⊢
                    have Hg2v17 := Lib.hid hs
                    have Ho1v17 := Lib.hid (Ho1v16.out.kept hu (fun b hb e => (Ho1v16.out.apart Hg2v16.out (by decide)) (e ▸ hb)))
                    have Ho2v17 := Lib.hid (Ho2v16.out.kept hu (fun b hb e => (Ho2v16.out.apart Hg2v16.out (by decide)) (e ▸ hb)))
                    have Hlowv17 := Lib.hid (Hlowv16.out.upd (Nat.le_refl _) hu (fun b hb => by rw [hb]; exact HL12.out))
                    have Hg1v17 := Lib.hid (hu.at_ Hg1v16.out (fun e => by
                      have q1 := Hg1v16.out
                      rw [e, Hg2v16.out] at q1
                      injection q1 with q1
                      injection q1 with _ hT _
                      exact absurd hT (by decide)))
                    clear fg zg hu hs
                    refine hK.out _ _ (Hr8.out _ Hlowv17.out) (fun _ => ?_)
                    clear hK K
                    (try simp only [List.getElem_toArray, List.getElem_cons_succ, List.getElem_cons_zero, Act.put, List.setIfInBounds_toArray, List.set_cons_zero, List.set_cons_succ])
                    refine wpAnyH_done (by kernel_rfl) ?_ _
                    exact ⟨rfl, a1, c1, a2, c2, G11, G12, by simp only [List.setIfInBounds_toArray, List.set_cons_zero, List.set_cons_succ], Hlowv17.out, Ho1v17.out, Ho2v17.out, Hg1v17.out, Hg2v17.out⟩
                  exact AllReadyH.nil
                exact AllReadyH.nil
              exact AllReadyH.nil
            refine AllReadyH.cons rfl (fun K hK => ?_) ?_
            · go_simp
              have hb := on_alloc (Below.refl _ v13) (.cells #[.slice none 0 0] 71)
              have hg := heap_alloc_new v13 (.cells #[.slice none 0 0] 71)
              obtain ⟨G12, hG12⟩ : ∃ G, G = v13.heap.size := ⟨_, rfl⟩
              generalize v13.alloc (.cells #[.slice none 0 0] 71) = v18 at hb hg ⊢
              rw [← hG12] at hg
              rw [← hG12]
              have Hg2v18 := Lib.hid hg
              have Hlowv18 := Lib.hid (below_on Hlowv13.out hb)
              have Ho1v18 := Lib.hid (Ho1v13.out.below_ hb)
              have Hg1v18 := Lib.hid ((hb.block _ (lt_heap Hg1v13.out)).trans Hg1v13.out)
              have HG12 := Lib.hid hG12
              clear hb hg hG12
              have HL12 := Lib.hid (show w8.heap.size ≤ G12 by rw [HG12.out]; exact Hlowv13.out.size)
              refine hK.out _ _ (Hr8.out _ Hlowv18.out) (fun _ => ?_)
              clear hK K
              (try simp only [List.getElem_toArray, List.getElem_cons_succ, List.getElem_cons_zero, Act.put, List.setIfInBounds_toArray, List.set_cons_zero, List.set_cons_succ])
              refine wpAnyH_ready (rs := [3]) (by kernel_rfl) (by simp) ?_
              refine AllReadyH.cons rfl (fun K hK => ?_) ?_
              · go_simp
                go_at_call 22
                refine (HNam.out v18 (H8.out.below Hlowv18.out)).mono ?_
                rintro e v19 ⟨a2, c2, rfl, ho, hb⟩
                have Ho2v19 := Lib.hid ho
                have Hlowv19 := Lib.hid (below_on Hlowv18.out hb)
                have Ho1v19 := Lib.hid (Ho1v18.out.below_ hb)
                have Hg1v19 := Lib.hid ((hb.block _ (lt_heap Hg1v18.out)).trans Hg1v18.out)
                have Hg2v19 := Lib.hid ((hb.block _ (lt_heap Hg2v18.out)).trans Hg2v18.out)
                clear ho hb
                (try go_wp2_with fail)
                refine hK.out _ _ (Hr8.out _ Hlowv19.out) (fun _ => ?_)
                clear hK K
                (try simp only [List.getElem_toArray, List.getElem_cons_succ, List.getElem_cons_zero, Act.put, List.setIfInBounds_toArray, List.set_cons_zero, List.set_cons_succ])
                refine wpAnyH_ready (rs := [6]) (by kernel_rfl) (by simp) ?_
                refine AllReadyH.cons rfl (fun K hK => ?_) ?_
                · have fg := cell1 Hg1v19.out
                  have zg := frozen_of_row _ _ 0 _ _ Hg1v19.out
                  go_simp
                  have hu : Upd (fun b => b = G11) v19 (v19.setCell ⟨G11, 0, none⟩ (.slice a1 L.length c1)) := (Upd.refl _ _).setCell _ _ (fun _ => rfl)
                  have hs := set1 (.slice a1 L.length c1) Hg1v19.out
                  generalize v19.setCell ⟨G11, 0, none⟩ (.slice a1 L.length c1) = v20 at hu hs ⊢
                  have Hg1v20 := Lib.hid hs
                  have Ho1v20 := Lib.hid (Ho1v19.out.kept hu (fun b hb e => (Ho1v19.out.apart Hg1v19.out (by decide)) (e ▸ hb)))
                  have Ho2v20 := Lib.hid (Ho2v19.out.kept hu (fun b hb e => (Ho2v19.out.apart Hg1v19.out (by decide)) (e ▸ hb)))
                  have Hlowv20 := Lib.hid (Hlowv19.out.upd (Nat.le_refl _) hu (fun b hb => by rw [hb]; exact HL11.out))
                  have Hg2v20 := Lib.hid (hu.at_ Hg2v19.out (fun e => by
                    have q1 := Hg2v19.out
                    rw [e, Hg1v19.out] at q1
                    injection q1 with q1
                    injection q1 with _ hT _
                    exact absurd hT (by decide)))
                  clear fg zg hu hs
                  refine hK.out _ _ (Hr8.out _ Hlowv20.out) (fun _ => ?_)
                  clear hK K
                  (try simp only [List.getElem_toArray, List.getElem_cons_succ, List.getElem_cons_zero, Act.put, List.setIfInBounds_toArray, List.set_cons_zero, List.set_cons_succ])
                  refine wpAnyH_ready (rs := [7]) (by kernel_rfl) (by simp) ?_
                  refine AllReadyH.cons rfl (fun K hK => ?_) ?_
                  · have fg := cell1 Hg2v20.out
                    have zg := frozen_of_row _ _ 0 _ _ Hg2v20.out
                    go_simp
                    have hu : Upd (fun b => b = G12) v20 (v20.setCell ⟨G12, 0, none⟩ (.slice a2 n.kids.length c2)) := (Upd.refl _ _).setCell _ _ (fun _ => rfl)
                    have hs := set1 (.slice a2 n.kids.length c2) Hg2v20.out
                    generalize v20.setCell ⟨G12, 0, none⟩ (.slice a2 n.kids.length c2) = v21 at hu hs ⊢
                    have Hg2v21 := Lib.hid hs
                    have Ho1v21 := Lib.hid (Ho1v20.out.kept hu (fun b hb e => (Ho1v20.out.apart Hg2v20.out (by decide)) (e ▸ hb)))
                    have Ho2v21 := Lib.hid (Ho2v20.out.kept hu (fun b hb e => (Ho2v20.out.apart Hg2v20.out (by decide)) (e ▸ hb)))
                    have Hlowv21 := Lib.hid (Hlowv20.out.upd (Nat.le_refl _) hu (fun b hb => by rw [hb]; exact HL12.out))
                    have Hg1v21 := Lib.hid (hu.at_ Hg1v20.out (fun e => by
                      have q1 := Hg1v20.out
                      rw [e, Hg2v20.out] at q1
                      injection q1 with q1
                      injection q1 with _ hT _
                      exact absurd hT (by decide)))
                    clear fg zg hu hs
                    refine hK.out _ _ (Hr8.out _ Hlowv21.out) (fun _ => ?_)
                    clear hK K
                    (try simp only [List.getElem_toArray, List.getElem_cons_succ, List.getElem_cons_zero, Act.put, List.setIfInBounds_toArray, List.set_cons_zero, List.set_cons_succ])
                    refine wpAnyH_done (by kernel_rfl) ?_ _
                    exact ⟨rfl, a1, c1, a2, c2, G11, G12, by simp only [List.setIfInBounds_toArray, List.set_cons_zero, List.set_cons_succ], Hlowv21.out, Ho1v21.out, Ho2v21.out, Hg1v21.out, Hg2v21.out⟩
                  exact AllReadyH.nil
                exact AllReadyH.nil
              exact AllReadyH.nil
            exact AllReadyH.nil
          refine AllReadyH.cons rfl (fun K hK => ?_) ?_
          · go_simp
            have hb := on_alloc (Below.refl _ v3) (.cells #[.slice none 0 0] 71)
            have hg := heap_alloc_new v3 (.cells #[.slice none 0 0] 71)
            obtain ⟨G12, hG12⟩ : ∃ G, G = v3.heap.size := ⟨_, rfl⟩
            generalize v3.alloc (.cells #[.slice none 0 0] 71) = v22 at hb hg ⊢
            rw [← hG12] at hg
            rw [← hG12]
            have Hg2v22 := Lib.hid hg
            have Hlowv22 := Lib.hid (below_on Hlowv3.out hb)
            have Ho1v22 := Lib.hid (Ho1v3.out.below_ hb)
            have HG12 := Lib.hid hG12
            clear hb hg hG12
            have HL12 := Lib.hid (show w8.heap.size ≤ G12 by rw [HG12.out]; exact Hlowv3.out.size)
            refine hK.out _ _ (Hr8.out _ Hlowv22.out) (fun _ => ?_)
            clear hK K
            (try simp only [List.getElem_toArray, List.getElem_cons_succ, List.getElem_cons_zero, Act.put, List.setIfInBounds_toArray, List.set_cons_zero, List.set_cons_succ])
            refine wpAnyH_ready (rs := [3, 4]) (by kernel_rfl) (by simp) ?_
            refine AllReadyH.cons rfl (fun K hK => ?_) ?_
            · go_simp
              go_at_call 22
              refine (HNam.out v22 (H8.out.below Hlowv22.out)).mono ?_
              rintro e v23 ⟨a2, c2, rfl, ho, hb⟩
              have Ho2v23 := Lib.hid ho
              have Hlowv23 := Lib.hid (below_on Hlowv22.out hb)
              have Ho1v23 := Lib.hid (Ho1v22.out.below_ hb)
              have Hg2v23 := Lib.hid ((hb.block _ (lt_heap Hg2v22.out)).trans Hg2v22.out)
              clear ho hb
              (try go_wp2_with fail)
              refine hK.out _ _ (Hr8.out _ Hlowv23.out) (fun _ => ?_)
              clear hK K
              (try simp only [List.getElem_toArray, List.getElem_cons_succ, List.getElem_cons_zero, Act.put, List.setIfInBounds_toArray, List.set_cons_zero, List.set_cons_succ])
              refine wpAnyH_ready (rs := [4]) (by kernel_rfl) (by simp) ?_
              refine AllReadyH.cons rfl (fun K hK => ?_) ?_
              · go_simp
                have hb := on_alloc (Below.refl _ v23) (.cells #[.slice none 0 0] 69)
                have hg := heap_alloc_new v23 (.cells #[.slice none 0 0] 69)
                obtain ⟨G11, hG11⟩ : ∃ G, G = v23.heap.size := ⟨_, rfl⟩
                generalize v23.alloc (.cells #[.slice none 0 0] 69) = v24 at hb hg ⊢
                rw [← hG11] at hg
                rw [← hG11]
                have Hg1v24 := Lib.hid hg
                have Hlowv24 := Lib.hid (below_on Hlowv23.out hb)
                have Ho1v24 := Lib.hid (Ho1v23.out.below_ hb)
                have Ho2v24 := Lib.hid (Ho2v23.out.below_ hb)
                have Hg2v24 := Lib.hid ((hb.block _ (lt_heap Hg2v23.out)).trans Hg2v23.out)
                have HG11 := Lib.hid hG11
                clear hb hg hG11
                have HL11 := Lib.hid (show w8.heap.size ≤ G11 by rw [HG11.out]; exact Hlowv23.out.size)
                refine hK.out _ _ (Hr8.out _ Hlowv24.out) (fun _ => ?_)
                clear hK K
                (try simp only [List.getElem_toArray, List.getElem_cons_succ, List.getElem_cons_zero, Act.put, List.setIfInBounds_toArray, List.set_cons_zero, List.set_cons_succ])
                refine wpAnyH_ready (rs := [6]) (by kernel_rfl) (by simp) ?_
                refine AllReadyH.cons rfl (fun K hK => ?_) ?_
                · have fg := cell1 Hg1v24.out
                  have zg := frozen_of_row _ _ 0 _ _ Hg1v24.out
                  go_simp
                  have hu : Upd (fun b => b = G11) v24 (v24.setCell ⟨G11, 0, none⟩ (.slice a1 L.length c1)) := (Upd.refl _ _).setCell _ _ (fun _ => rfl)
                  have hs := set1 (.slice a1 L.length c1) Hg1v24.out
                  generalize v24.setCell ⟨G11, 0, none⟩ (.slice a1 L.length c1) = v25 at hu hs ⊢
                  have Hg1v25 := Lib.hid hs
                  have Ho1v25 := Lib.hid (Ho1v24.out.kept hu (fun b hb e => (Ho1v24.out.apart Hg1v24.out (by decide)) (e ▸ hb)))
                  have Ho2v25 := Lib.hid (Ho2v24.out.kept hu (fun b hb e => (Ho2v24.out.apart Hg1v24.out (by decide)) (e ▸ hb)))
                  have Hlowv25 := Lib.hid (Hlowv24.out.upd (Nat.le_refl _) hu (fun b hb => by rw [hb]; exact HL11.out))
                  have Hg2v25 := Lib.hid (hu.at_ Hg2v24.out (fun e => by
                    have q1 := Hg2v24.out
                    rw [e, Hg1v24.out] at q1
                    injection q1 with q1
                    injection q1 with _ hT _
                    exact absurd hT (by decide)))
                  clear fg zg hu hs
                  refine hK.out _ _ (Hr8.out _ Hlowv25.out) (fun _ => ?_)
                  clear hK K
                  (try simp only [List.getElem_toArray, List.getElem_cons_succ, List.getElem_cons_zero, Act.put, List.setIfInBounds_toArray, List.set_cons_zero, List.set_cons_succ])
                  refine wpAnyH_ready (rs := [7]) (by kernel_rfl) (by simp) ?_
                  refine AllReadyH.cons rfl (fun K hK => ?_) ?_
                  · have fg := cell1 Hg2v25.out
                    have zg := frozen_of_row _ _ 0 _ _ Hg2v25.out
                    go_simp
                    have hu : Upd (fun b => b = G12) v25 (v25.setCell ⟨G12, 0, none⟩ (.slice a2 n.kids.length c2)) := (Upd.refl _ _).setCell _ _ (fun _ => rfl)
                    have hs := set1 (.slice a2 n.kids.length c2) Hg2v25.out
                    generalize v25.setCell ⟨G12, 0, none⟩ (.slice a2 n.kids.length c2) = v26 at hu hs ⊢
                    have Hg2v26 := Lib.hid hs
                    have Ho1v26 := Lib.hid (Ho1v25.out.kept hu (fun b hb e => (Ho1v25.out.apart Hg2v25.out (by decide)) (e ▸ hb)))
                    have Ho2v26 := Lib.hid (Ho2v25.out.kept hu (fun b hb e => (Ho2v25.out.apart Hg2v25.out (by decide)) (e ▸ hb)))
                    have Hlowv26 := Lib.hid (Hlowv25.out.upd (Nat.le_refl _) hu (fun b hb => by rw [hb]; exact HL12.out))
                    have Hg1v26 := Lib.hid (hu.at_ Hg1v25.out (fun e => by
                      have q1 := Hg1v25.out
                      rw [e, Hg2v25.out] at q1
                      injection q1 with q1
                      injection q1 with _ hT _
                      exact absurd hT (by decide)))
                    clear fg zg hu hs
                    refine hK.out _ _ (Hr8.out _ Hlowv26.out) (fun _ => ?_)
                    clear hK K
                    (try simp only [List.getElem_toArray, List.getElem_cons_succ, List.getElem_cons_zero, Act.put, List.setIfInBounds_toArray, List.set_cons_zero, List.set_cons_succ])
                    refine wpAnyH_done (by kernel_rfl) ?_ _
                    exact ⟨rfl, a1, c1, a2, c2, G11, G12, by simp only [List.setIfInBounds_toArray, List.set_cons_zero, List.set_cons_succ], Hlowv26.out, Ho1v26.out, Ho2v26.out, Hg1v26.out, Hg2v26.out⟩
                  exact AllReadyH.nil
                exact AllReadyH.nil
              exact AllReadyH.nil
            refine AllReadyH.cons rfl (fun K hK => ?_) ?_
            · go_simp
              have hb := on_alloc (Below.refl _ v22) (.cells #[.slice none 0 0] 69)
              have hg := heap_alloc_new v22 (.cells #[.slice none 0 0] 69)
              obtain ⟨G11, hG11⟩ : ∃ G, G = v22.heap.size := ⟨_, rfl⟩
              generalize v22.alloc (.cells #[.slice none 0 0] 69) = v27 at hb hg ⊢
              rw [← hG11] at hg
              rw [← hG11]
              have Hg1v27 := Lib.hid hg
              have Hlowv27 := Lib.hid (below_on Hlowv22.out hb)
              have Ho1v27 := Lib.hid (Ho1v22.out.below_ hb)
              have Hg2v27 := Lib.hid ((hb.block _ (lt_heap Hg2v22.out)).trans Hg2v22.out)
              have HG11 := Lib.hid hG11
              clear hb hg hG11
              have HL11 := Lib.hid (show w8.heap.size ≤ G11 by rw [HG11.out]; exact Hlowv22.out.size)
              refine hK.out _ _ (Hr8.out _ Hlowv27.out) (fun _ => ?_)
              clear hK K
              (try simp only [List.getElem_toArray, List.getElem_cons_succ, List.getElem_cons_zero, Act.put, List.setIfInBounds_toArray, List.set_cons_zero, List.set_cons_succ])
              refine wpAnyH_ready (rs := [3]) (by kernel_rfl) (by simp) ?_
              refine AllReadyH.cons rfl (fun K hK => ?_) ?_
              · go_simp
                go_at_call 22
                refine (HNam.out v27 (H8.out.below Hlowv27.out)).mono ?_
                rintro e v28 ⟨a2, c2, rfl, ho, hb⟩
                have Ho2v28 := Lib.hid ho
                have Hlowv28 := Lib.hid (below_on Hlowv27.out hb)
                have Ho1v28 := Lib.hid (Ho1v27.out.below_ hb)
                have Hg1v28 := Lib.hid ((hb.block _ (lt_heap Hg1v27.out)).trans Hg1v27.out)
                have Hg2v28 := Lib.hid ((hb.block _ (lt_heap Hg2v27.out)).trans Hg2v27.out)
                clear ho hb
                (try go_wp2_with fail)
                refine hK.out _ _ (Hr8.out _ Hlowv28.out) (fun _ => ?_)
                clear hK K
                (try simp only [List.getElem_toArray, List.getElem_cons_succ, List.getElem_cons_zero, Act.put, List.setIfInBounds_toArray, List.set_cons_zero, List.set_cons_succ])
                refine wpAnyH_ready (rs := [6]) (by kernel_rfl) (by simp) ?_
                refine AllReadyH.cons rfl (fun K hK => ?_) ?_
                · have fg := cell1 Hg1v28.out
                  have zg := frozen_of_row _ _ 0 _ _ Hg1v28.out
                  go_simp
                  have hu : Upd (fun b => b = G11) v28 (v28.setCell ⟨G11, 0, none⟩ (.slice a1 L.length c1)) := (Upd.refl _ _).setCell _ _ (fun _ => rfl)
                  have hs := set1 (.slice a1 L.length c1) Hg1v28.out
                  generalize v28.setCell ⟨G11, 0, none⟩ (.slice a1 L.length c1) = v29 at hu hs ⊢
                  have Hg1v29 := Lib.hid hs
                  have Ho1v29 := Lib.hid (Ho1v28.out.kept hu (fun b hb e => (Ho1v28.out.apart Hg1v28.out (by decide)) (e ▸ hb)))
                  have Ho2v29 := Lib.hid (Ho2v28.out.kept hu (fun b hb e => (Ho2v28.out.apart Hg1v28.out (by decide)) (e ▸ hb)))
                  have Hlowv29 := Lib.hid (Hlowv28.out.upd (Nat.le_refl _) hu (fun b hb => by rw [hb]; exact HL11.out))
                  have Hg2v29 := Lib.hid (hu.at_ Hg2v28.out (fun e => by
                    have q1 := Hg2v28.out
                    rw [e, Hg1v28.out] at q1
                    injection q1 with q1
                    injection q1 with _ hT _
                    exact absurd hT (by decide)))
                  clear fg zg hu hs
                  refine hK.out _ _ (Hr8.out _ Hlowv29.out) (fun _ => ?_)
                  clear hK K
                  (try simp only [List.getElem_toArray, List.getElem_cons_succ, List.getElem_cons_zero, Act.put, List.setIfInBounds_toArray, List.set_cons_zero, List.set_cons_succ])
                  refine wpAnyH_ready (rs := [7]) (by kernel_rfl) (by simp) ?_
                  refine AllReadyH.cons rfl (fun K hK => ?_) ?_
                  · have fg := cell1 Hg2v29.out
                    have zg := frozen_of_row _ _ 0 _ _ Hg2v29.out
                    go_simp
                    have hu : Upd (fun b => b = G12) v29 (v29.setCell ⟨G12, 0, none⟩ (.slice a2 n.kids.length c2)) := (Upd.refl _ _).setCell _ _ (fun _ => rfl)
                    have hs := set1 (.slice a2 n.kids.length c2) Hg2v29.out
                    generalize v29.setCell ⟨G12, 0, none⟩ (.slice a2 n.kids.length c2) = v30 at hu hs ⊢
                    have Hg2v30 := Lib.hid hs
                    have Ho1v30 := Lib.hid (Ho1v29.out.kept hu (fun b hb e => (Ho1v29.out.apart Hg2v29.out (by decide)) (e ▸ hb)))
                    have Ho2v30 := Lib.hid (Ho2v29.out.kept hu (fun b hb e => (Ho2v29.out.apart Hg2v29.out (by decide)) (e ▸ hb)))
                    have Hlowv30 := Lib.hid (Hlowv29.out.upd (Nat.le_refl _) hu (fun b hb => by rw [hb]; exact HL12.out))
                    have Hg1v30 := Lib.hid (hu.at_ Hg1v29.out (fun e => by
                      have q1 := Hg1v29.out
                      rw [e, Hg2v29.out] at q1
                      injection q1 with q1
                      injection q1 with _ hT _
                      exact absurd hT (by decide)))
                    clear fg zg hu hs
                    refine hK.out _ _ (Hr8.out _ Hlowv30.out) (fun _ => ?_)
                    clear hK K
                    (try simp only [List.getElem_toArray, List.getElem_cons_succ, List.getElem_cons_zero, Act.put, List.setIfInBounds_toArray, List.set_cons_zero, List.set_cons_succ])
                    refine wpAnyH_done (by kernel_rfl) ?_ _
                    exact ⟨rfl, a1, c1, a2, c2, G11, G12, by simp only [List.setIfInBounds_toArray, List.set_cons_zero, List.set_cons_succ], Hlowv30.out, Ho1v30.out, Ho2v30.out, Hg1v30.out, Hg2v30.out⟩
                  exact AllReadyH.nil
                exact AllReadyH.nil
              exact AllReadyH.nil
            exact AllReadyH.nil
          exact AllReadyH.nil
        refine AllReadyH.cons rfl (fun K hK => ?_) ?_
        · go_simp
          have hb := on_alloc (Below.refl _ v0) (.cells #[.slice none 0 0] 69)
          have hg := heap_alloc_new v0 (.cells #[.slice none 0 0] 69)
          obtain ⟨G11, hG11⟩ : ∃ G, G = v0.heap.size := ⟨_, rfl⟩
          generalize v0.alloc (.cells #[.slice none 0 0] 69) = v31 at hb hg ⊢
          rw [← hG11] at hg
          rw [← hG11]
          have Hg1v31 := Lib.hid hg
          have Hlowv31 := Lib.hid (below_on Hlow.out hb)
          have HG11 := Lib.hid hG11
          clear hb hg hG11
          have HL11 := Lib.hid (show w8.heap.size ≤ G11 by rw [HG11.out]; exact Hlow.out.size)
          refine hK.out _ _ (Hr8.out _ Hlowv31.out) (fun _ => ?_)
          clear hK K
          (try simp only [List.getElem_toArray, List.getElem_cons_succ, List.getElem_cons_zero, Act.put, List.setIfInBounds_toArray, List.set_cons_zero, List.set_cons_succ])
          refine wpAnyH_ready (rs := [1, 5]) (by kernel_rfl) (by simp) ?_
          refine AllReadyH.cons rfl (fun K hK => ?_) ?_
          · go_simp
            go_at_call 21
            refine (HAll.out v31 (H8.out.below Hlowv31.out)).mono ?_
            rintro e v32 ⟨a1, c1, rfl, ho, hb⟩
            have Ho1v32 := Lib.hid ho
            have Hlowv32 := Lib.hid (below_on Hlowv31.out hb)
            have Hg1v32 := Lib.hid ((hb.block _ (lt_heap Hg1v31.out)).trans Hg1v31.out)
            clear ho hb
            (try go_wp2_with fail)
            refine hK.out _ _ (Hr8.out _ Hlowv32.out) (fun _ => ?_)
            clear hK K
            (try simp only [List.getElem_toArray, List.getElem_cons_succ, List.getElem_cons_zero, Act.put, List.setIfInBounds_toArray, List.set_cons_zero, List.set_cons_succ])
            refine wpAnyH_ready (rs := [3, 5]) (by kernel_rfl) (by simp) ?_
            refine AllReadyH.cons rfl (fun K hK => ?_) ?_
            · go_simp
              go_at_call 22
              refine (HNam.out v32 (H8.out.below Hlowv32.out)).mono ?_
              rintro e v33 ⟨a2, c2, rfl, ho, hb⟩
              have Ho2v33 := Lib.hid ho
              have Hlowv33 := Lib.hid (below_on Hlowv32.out hb)
              have Ho1v33 := Lib.hid (Ho1v32.out.below_ hb)
              have Hg1v33 := Lib.hid ((hb.block _ (lt_heap Hg1v32.out)).trans Hg1v32.out)
              clear ho hb
              (try go_wp2_with fail)
              refine hK.out _ _ (Hr8.out _ Hlowv33.out) (fun _ => ?_)
              clear hK K
              (try simp only [List.getElem_toArray, List.getElem_cons_succ, List.getElem_cons_zero, Act.put, List.setIfInBounds_toArray, List.set_cons_zero, List.set_cons_succ])
              refine wpAnyH_ready (rs := [5]) (by kernel_rfl) (by simp) ?_
              refine AllReadyH.cons rfl (fun K hK => ?_) ?_
              · go_simp
                have hb := on_alloc (Below.refl _ v33) (.cells #[.slice none 0 0] 71)
                have hg := heap_alloc_new v33 (.cells #[.slice none 0 0] 71)
                obtain ⟨G12, hG12⟩ : ∃ G, G = v33.heap.size := ⟨_, rfl⟩
                generalize v33.alloc (.cells #[.slice none 0 0] 71) = v34 at hb hg ⊢
                rw [← hG12] at hg
                rw [← hG12]
                have Hg2v34 := Lib.hid hg
                have Hlowv34 := Lib.hid (below_on Hlowv33.out hb)
                have Ho1v34 := Lib.hid (Ho1v33.out.below_ hb)
                have Ho2v34 := Lib.hid (Ho2v33.out.below_ hb)
                have Hg1v34 := Lib.hid ((hb.block _ (lt_heap Hg1v33.out)).trans Hg1v33.out)
                have HG12 := Lib.hid hG12
                clear hb hg hG12
                have HL12 := Lib.hid (show w8.heap.size ≤ G12 by rw [HG12.out]; exact Hlowv33.out.size)
                refine hK.out _ _ (Hr8.out _ Hlowv34.out) (fun _ => ?_)
                clear hK K
                (try simp only [List.getElem_toArray, List.getElem_cons_succ, List.getElem_cons_zero, Act.put, List.setIfInBounds_toArray, List.set_cons_zero, List.set_cons_succ])
                refine wpAnyH_ready (rs := [6]) (by kernel_rfl) (by simp) ?_
                refine AllReadyH.cons rfl (fun K hK => ?_) ?_
                · have fg := cell1 Hg1v34.out
                  have zg := frozen_of_row _ _ 0 _ _ Hg1v34.out
                  go_simp
                  have hu : Upd (fun b => b = G11) v34 (v34.setCell ⟨G11, 0, none⟩ (.slice a1 L.length c1)) := (Upd.refl _ _).setCell _ _ (fun _ => rfl)
                  have hs := set1 (.slice a1 L.length c1) Hg1v34.out
                  generalize v34.setCell ⟨G11, 0, none⟩ (.slice a1 L.length c1) = v35 at hu hs ⊢
                  have Hg1v35 := Lib.hid hs
                  have Ho1v35 := Lib.hid (Ho1v34.out.kept hu (fun b hb e => (Ho1v34.out.apart Hg1v34.out (by decide)) (e ▸ hb)))
                  have Ho2v35 := Lib.hid (Ho2v34.out.kept hu (fun b hb e => (Ho2v34.out.apart Hg1v34.out (by decide)) (e ▸ hb)))
                  have Hlowv35 := Lib.hid (Hlowv34.out.upd (Nat.le_refl _) hu (fun b hb => by rw [hb]; exact HL11.out))
                  have Hg2v35 := Lib.hid (hu.at_ Hg2v34.out (fun e => by
                    have q1 := Hg2v34.out
                    rw [e, Hg1v34.out] at q1
                    injection q1 with q1
                    injection q1 with _ hT _
                    exact absurd hT (by decide)))
                  clear fg zg hu hs
                  refine hK.out _ _ (Hr8.out _ Hlowv35.out) (fun _ => ?_)
                  clear hK K
                  (try simp only [List.getElem_toArray, List.getElem_cons_succ, List.getElem_cons_zero, Act.put, List.setIfInBounds_toArray, List.set_cons_zero, List.set_cons_succ])
                  refine wpAnyH_ready (rs := [7]) (by kernel_rfl) (by simp) ?_
                  refine AllReadyH.cons rfl (fun K hK => ?_) ?_
                  · have fg := cell1 Hg2v35.out
                    have zg := frozen_of_row _ _ 0 _ _ Hg2v35.out
                    go_simp
                    have hu : Upd (fun b => b = G12) v35 (v35.setCell ⟨G12, 0, none⟩ (.slice a2 n.kids.length c2)) := (Upd.refl _ _).setCell _ _ (fun _ => rfl)
                    have hs := set1 (.slice a2 n.kids.length c2) Hg2v35.out
                    generalize v35.setCell ⟨G12, 0, none⟩ (.slice a2 n.kids.length c2) = v36 at hu hs ⊢
                    have Hg2v36 := Lib.hid hs
                    have Ho1v36 := Lib.hid (Ho1v35.out.kept hu (fun b hb e => (Ho1v35.out.apart Hg2v35.out (by decide)) (e ▸ hb)))
                    have Ho2v36 := Lib.hid (Ho2v35.out.kept hu (fun b hb e => (Ho2v35.out.apart Hg2v35.out (by decide)) (e ▸ hb)))
                    have Hlowv36 := Lib.hid (Hlowv35.out.upd (Nat.le_refl _) hu (fun b hb => by rw [hb]; exact HL12.out))
                    have Hg1v36 := Lib.hid (hu.at_ Hg1v35.out (fun e => by
                      have q1 := Hg1v35.out
                      rw [e, Hg2v35.out] at q1
                      injection q1 with q1
                      injection q1 with _ hT _
                      exact absurd hT (by decide)))
                    clear fg zg hu hs
                    refine hK.out _ _ (Hr8.out _ Hlowv36.out) (fun _ => ?_)
                    clear hK K
                    (try simp only [List.getElem_toArray, List.getElem_cons_succ, List.getElem_cons_zero, Act.put, List.setIfInBounds_toArray, List.set_cons_zero, List.set_cons_succ])
                    refine wpAnyH_done (by kernel_rfl) ?_ _
                    exact ⟨rfl, a1, c1, a2, c2, G11, G12, by simp only [List.setIfInBounds_toArray, List.set_cons_zero, List.set_cons_succ], Hlowv36.out, Ho1v36.out, Ho2v36.out, Hg1v36.out, Hg2v36.out⟩
                  exact AllReadyH.nil
                exact AllReadyH.nil
              exact AllReadyH.nil
            refine AllReadyH.cons rfl (fun K hK => ?_) ?_
            · go_simp
              have hb := on_alloc (Below.refl _ v32) (.cells #[.slice none 0 0] 71)
              have hg := heap_alloc_new v32 (.cells #[.slice none 0 0] 71)
              obtain ⟨G12, hG12⟩ : ∃ G, G = v32.heap.size := ⟨_, rfl⟩
              generalize v32.alloc (.cells #[.slice none 0 0] 71) = v37 at hb hg ⊢
              rw [← hG12] at hg
              rw [← hG12]
              have Hg2v37 := Lib.hid hg
              have Hlowv37 := Lib.hid (below_on Hlowv32.out hb)
              have Ho1v37 := Lib.hid (Ho1v32.out.below_ hb)
              have Hg1v37 := Lib.hid ((hb.block _ (lt_heap Hg1v32.out)).trans Hg1v32.out)
              have HG12 := Lib.hid hG12
              clear hb hg hG12
              have HL12 := Lib.hid (show w8.heap.size ≤ G12 by rw [HG12.out]; exact Hlowv32.out.size)
              refine hK.out _ _ (Hr8.out _ Hlowv37.out) (fun _ => ?_)
              clear hK K
              (try simp only [List.getElem_toArray, List.getElem_cons_succ, List.getElem_cons_zero, Act.put, List.setIfInBounds_toArray, List.set_cons_zero, List.set_cons_succ])
              refine wpAnyH_ready (rs := [3]) (by kernel_rfl) (by simp) ?_
              refine AllReadyH.cons rfl (fun K hK => ?_) ?_
              · go_simp
                go_at_call 22
                refine (HNam.out v37 (H8.out.below Hlowv37.out)).mono ?_
                rintro e v38 ⟨a2, c2, rfl, ho, hb⟩
                have Ho2v38 := Lib.hid ho
                have Hlowv38 := Lib.hid (below_on Hlowv37.out hb)
                have Ho1v38 := Lib.hid (Ho1v37.out.below_ hb)
                have Hg1v38 := Lib.hid ((hb.block _ (lt_heap Hg1v37.out)).trans Hg1v37.out)
                have Hg2v38 := Lib.hid ((hb.block _ (lt_heap Hg2v37.out)).trans Hg2v37.out)
                clear ho hb
                (try go_wp2_with fail)
                refine hK.out _ _ (Hr8.out _ Hlowv38.out) (fun _ => ?_)
                clear hK K
                (try simp only [List.getElem_toArray, List.getElem_cons_succ, List.getElem_cons_zero, Act.put, List.setIfInBounds_toArray, List.set_cons_zero, List.set_cons_succ])
                refine wpAnyH_ready (rs := [6]) (by kernel_rfl) (by simp) ?_
                refine AllReadyH.cons rfl (fun K hK => ?_) ?_
                · have fg := cell1 Hg1v38.out
                  have zg := frozen_of_row _ _ 0 _ _ Hg1v38.out
                  go_simp
                  have hu : Upd (fun b => b = G11) v38 (v38.setCell ⟨G11, 0, none⟩ (.slice a1 L.length c1)) := (Upd.refl _ _).setCell _ _ (fun _ => rfl)
                  have hs := set1 (.slice a1 L.length c1) Hg1v38.out
                  generalize v38.setCell ⟨G11, 0, none⟩ (.slice a1 L.length c1) = v39 at hu hs ⊢
                  have Hg1v39 := Lib.hid hs
                  have Ho1v39 := Lib.hid (Ho1v38.out.kept hu (fun b hb e => (Ho1v38.out.apart Hg1v38.out (by decide)) (e ▸ hb)))
                  have Ho2v39 := Lib.hid (Ho2v38.out.kept hu (fun b hb e => (Ho2v38.out.apart Hg1v38.out (by decide)) (e ▸ hb)))
                  have Hlowv39 := Lib.hid (Hlowv38.out.upd (Nat.le_refl _) hu (fun b hb => by rw [hb]; exact HL11.out))
                  have Hg2v39 := Lib.hid (hu.at_ Hg2v38.out (fun e => by
                    have q1 := Hg2v38.out
                    rw [e, Hg1v38.out] at q1
                    injection q1 with q1
                    injection q1 with _ hT _
                    exact absurd hT (by decide)))
                  clear fg zg hu hs
                  refine hK.out _ _ (Hr8.out _ Hlowv39.out) (fun _ => ?_)
                  clear hK K
                  (try simp only [List.getElem_toArray, List.getElem_cons_succ, List.getElem_cons_zero, Act.put, List.setIfInBounds_toArray, List.set_cons_zero, List.set_cons_succ])
                  refine wpAnyH_ready (rs := [7]) (by kernel_rfl) (by simp) ?_
                  refine AllReadyH.cons rfl (fun K hK => ?_) ?_
                  · have fg := cell1 Hg2v39.out
                    have zg := frozen_of_row _ _ 0 _ _ Hg2v39.out
                    go_simp
                    have hu : Upd (fun b => b = G12) v39 (v39.setCell ⟨G12, 0, none⟩ (.slice a2 n.kids.length c2)) := (Upd.refl _ _).setCell _ _ (fun _ => rfl)
                    have hs := set1 (.slice a2 n.kids.length c2) Hg2v39.out
                    generalize v39.setCell ⟨G12, 0, none⟩ (.slice a2 n.kids.length c2) = v40 at hu hs ⊢
                    have Hg2v40 := Lib.hid hs
                    have Ho1v40 := Lib.hid (Ho1v39.out.kept hu (fun b hb e => (Ho1v39.out.apart Hg2v39.out (by decide)) (e ▸ hb)))
                    have Ho2v40 := Lib.hid (Ho2v39.out.kept hu (fun b hb e => (Ho2v39.out.apart Hg2v39.out (by decide)) (e ▸ hb)))
                    have Hlowv40 := Lib.hid (Hlowv39.out.upd (Nat.le_refl _) hu (fun b hb => by rw [hb]; exact HL12.out))
                    have Hg1v40 := Lib.hid (hu.at_ Hg1v39.out (fun e => by
                      have q1 := Hg1v39.out
                      rw [e, Hg2v39.out] at q1
                      injection q1 with q1
                      injection q1 with _ hT _
                      exact absurd hT (by decide)))
                    clear fg zg hu hs
                    refine hK.out _ _ (Hr8.out _ Hlowv40.out) (fun _ => ?_)
                    clear hK K
                    (try simp only [List.getElem_toArray, List.getElem_cons_succ, List.getElem_cons_zero, Act.put, List.setIfInBounds_toArray, List.set_cons_zero, List.set_cons_succ])
                    refine wpAnyH_done (by kernel_rfl) ?_ _
                    exact ⟨rfl, a1, c1, a2, c2, G11, G12, by simp only [List.setIfInBounds_toArray, List.set_cons_zero, List.set_cons_succ], Hlowv40.out, Ho1v40.out, Ho2v40.out, Hg1v40.out, Hg2v40.out⟩
                  exact AllReadyH.nil
                exact AllReadyH.nil
              exact AllReadyH.nil
            exact AllReadyH.nil
          refine AllReadyH.cons rfl (fun K hK => ?_) ?_
          · go_simp
            have hb := on_alloc (Below.refl _ v31) (.cells #[.slice none 0 0] 71)
            have hg := heap_alloc_new v31 (.cells #[.slice none 0 0] 71)
            obtain ⟨G12, hG12⟩ : ∃ G, G = v31.heap.size := ⟨_, rfl⟩
            generalize v31.alloc (.cells #[.slice none 0 0] 71) = v41 at hb hg ⊢
            rw [← hG12] at hg
            rw [← hG12]
            have Hg2v41 := Lib.hid hg
            have Hlowv41 := Lib.hid (below_on Hlowv31.out hb)
            have Hg1v41 := Lib.hid ((hb.block _ (lt_heap Hg1v31.out)).trans Hg1v31.out)
            have HG12 := Lib.hid hG12
            clear hb hg hG12
            have HL12 := Lib.hid (show w8.heap.size ≤ G12 by rw [HG12.out]; exact Hlowv31.out.size)
            refine hK.out _ _ (Hr8.out _ Hlowv41.out) (fun _ => ?_)
            clear hK K
            (try simp only [List.getElem_toArray, List.getElem_cons_succ, List.getElem_cons_zero, Act.put, List.setIfInBounds_toArray, List.set_cons_zero, List.set_cons_succ])
            refine wpAnyH_ready (rs := [1]) (by kernel_rfl) (by simp) ?_
            refine AllReadyH.cons rfl (fun K hK => ?_) ?_
            · go_simp
              go_at_call 21
              refine (HAll.out v41 (H8.out.below Hlowv41.out)).mono ?_
              rintro e v42 ⟨a1, c1, rfl, ho, hb⟩
              have Ho1v42 := Lib.hid ho
              have Hlowv42 := Lib.hid (below_on Hlowv41.out hb)
              have Hg1v42 := Lib.hid ((hb.block _ (lt_heap Hg1v41.out)).trans Hg1v41.out)
              have Hg2v42 := Lib.hid ((hb.block _ (lt_heap Hg2v41.out)).trans Hg2v41.out)
              clear ho hb
              (try go_wp2_with fail)
              refine hK.out _ _ (Hr8.out _ Hlowv42.out) (fun _ => ?_)
              clear hK K
              (try simp only [List.getElem_toArray, List.getElem_cons_succ, List.getElem_cons_zero, Act.put, List.setIfInBounds_toArray, List.set_cons_zero, List.set_cons_succ])
              refine wpAnyH_ready (rs := [3]) (by kernel_rfl) (by simp) ?_
              refine AllReadyH.cons rfl (fun K hK => ?_) ?_
              · go_simp
                go_at_call 22
                refine (HNam.out v42 (H8.out.below Hlowv42.out)).mono ?_
                rintro e v43 ⟨a2, c2, rfl, ho, hb⟩
                have Ho2v43 := Lib.hid ho
                have Hlowv43 := Lib.hid (below_on Hlowv42.out hb)
                have Ho1v43 := Lib.hid (Ho1v42.out.below_ hb)
                have Hg1v43 := Lib.hid ((hb.block _ (lt_heap Hg1v42.out)).trans Hg1v42.out)
                have Hg2v43 := Lib.hid ((hb.block _ (lt_heap Hg2v42.out)).trans Hg2v42.out)
                clear ho hb
                (try go_wp2_with fail)
                refine hK.out _ _ (Hr8.out _ Hlowv43.out) (fun _ => ?_)
                clear hK K
                (try simp only [List.getElem_toArray, List.getElem_cons_succ, List.getElem_cons_zero, Act.put, List.setIfInBounds_toArray, List.set_cons_zero, List.set_cons_succ])
                refine wpAnyH_ready (rs := [6]) (by kernel_rfl) (by simp) ?_
                refine AllReadyH.cons rfl (fun K hK => ?_) ?_
                · have fg := cell1 Hg1v43.out
                  have zg := frozen_of_row _ _ 0 _ _ Hg1v43.out
                  go_simp
                  have hu : Upd (fun b => b = G11) v43 (v43.setCell ⟨G11, 0, none⟩ (.slice a1 L.length c1)) := (Upd.refl _ _).setCell _ _ (fun _ => rfl)
                  have hs := set1 (.slice a1 L.length c1) Hg1v43.out
                  generalize v43.setCell ⟨G11, 0, none⟩ (.slice a1 L.length c1) = v44 at hu hs ⊢
                  have Hg1v44 := Lib.hid hs
                  have Ho1v44 := Lib.hid (Ho1v43.out.kept hu (fun b hb e => (Ho1v43.out.apart Hg1v43.out (by decide)) (e ▸ hb)))
                  have Ho2v44 := Lib.hid (Ho2v43.out.kept hu (fun b hb e => (Ho2v43.out.apart Hg1v43.out (by decide)) (e ▸ hb)))
                  have Hlowv44 := Lib.hid (Hlowv43.out.upd (Nat.le_refl _) hu (fun b hb => by rw [hb]; exact HL11.out))
                  have Hg2v44 := Lib.hid (hu.at_ Hg2v43.out (fun e => by
                    have q1 := Hg2v43.out
                    rw [e, Hg1v43.out] at q1
                    injection q1 with q1
                    injection q1 with _ hT _
                    exact absurd hT (by decide)))
                  clear fg zg hu hs
                  refine hK.out _ _ (Hr8.out _ Hlowv44.out) (fun _ => ?_)
                  clear hK K
                  (try simp only [List.getElem_toArray, List.getElem_cons_succ, List.getElem_cons_zero, Act.put, List.setIfInBounds_toArray, List.set_cons_zero, List.set_cons_succ])
                  refine wpAnyH_ready (rs := [7]) (by kernel_rfl) (by simp) ?_
                  refine AllReadyH.cons rfl (fun K hK => ?_) ?_
                  · have fg := cell1 Hg2v44.out
                    have zg := frozen_of_row _ _ 0 _ _ Hg2v44.out
                    go_simp
                    have hu : Upd (fun b => b = G12) v44 (v44.setCell ⟨G12, 0, none⟩ (.slice a2 n.kids.length c2)) := (Upd.refl _ _).setCell _ _ (fun _ => rfl)
                    have hs := set1 (.slice a2 n.kids.length c2) Hg2v44.out
                    generalize v44.setCell ⟨G12, 0, none⟩ (.slice a2 n.kids.length c2) = v45 at hu hs ⊢
                    have Hg2v45 := Lib.hid hs
                    have Ho1v45 := Lib.hid (Ho1v44.out.kept hu (fun b hb e => (Ho1v44.out.apart Hg2v44.out (by decide)) (e ▸ hb)))
                    have Ho2v45 := Lib.hid (Ho2v44.out.kept hu (fun b hb e => (Ho2v44.out.apart Hg2v44.out (by decide)) (e ▸ hb)))
                    have Hlowv45 := Lib.hid (Hlowv44.out.upd (Nat.le_refl _) hu (fun b hb => by rw [hb]; exact HL12.out))
                    have Hg1v45 := Lib.hid (hu.at_ Hg1v44.out (fun e => by
                      have q1 := Hg1v44.out
                      rw [e, Hg2v44.out] at q1
                      injection q1 with q1
                      injection q1 with _ hT _
                      exact absurd hT (by decide)))
                    clear fg zg hu hs
                    refine hK.out _ _ (Hr8.out _ Hlowv45.out) (fun _ => ?_)
                    clear hK K
                    (try simp only [List.getElem_toArray, List.getElem_cons_succ, List.getElem_cons_zero, Act.put, List.setIfInBounds_toArray, List.set_cons_zero, List.set_cons_succ])
                    refine wpAnyH_done (by kernel_rfl) ?_ _
                    exact ⟨rfl, a1, c1, a2, c2, G11, G12, by simp only [List.setIfInBounds_toArray, List.set_cons_zero, List.set_cons_succ], Hlowv45.out, Ho1v45.out, Ho2v45.out, Hg1v45.out, Hg2v45.out⟩
                  exact AllReadyH.nil
                exact AllReadyH.nil
              exact AllReadyH.nil
            exact AllReadyH.nil
          exact AllReadyH.nil
        refine AllReadyH.cons rfl (fun K hK => ?_) ?_
        · go_simp
          have hb := on_alloc (Below.refl _ v0) (.cells #[.slice none 0 0] 71)
          have hg := heap_alloc_new v0 (.cells #[.slice none 0 0] 71)
          obtain ⟨G12, hG12⟩ : ∃ G, G = v0.heap.size := ⟨_, rfl⟩
          generalize v0.alloc (.cells #[.slice none 0 0] 71) = v46 at hb hg ⊢
          rw [← hG12] at hg
          rw [← hG12]
          have Hg2v46 := Lib.hid hg
          have Hlowv46 := Lib.hid (below_on Hlow.out hb)
          have HG12 := Lib.hid hG12
          clear hb hg hG12
          have HL12 := Lib.hid (show w8.heap.size ≤ G12 by rw [HG12.out]; exact Hlow.out.size)
          refine hK.out _ _ (Hr8.out _ Hlowv46.out) (fun _ => ?_)
          clear hK K
          (try simp only [List.getElem_toArray, List.getElem_cons_succ, List.getElem_cons_zero, Act.put, List.setIfInBounds_toArray, List.set_cons_zero, List.set_cons_succ])
          refine wpAnyH_ready (rs := [1, 4]) (by kernel_rfl) (by simp) ?_
          refine AllReadyH.cons rfl (fun K hK => ?_) ?_
          · go_simp
            go_at_call 21
            refine (HAll.out v46 (H8.out.below Hlowv46.out)).mono ?_
            rintro e v47 ⟨a1, c1, rfl, ho, hb⟩
            have Ho1v47 := Lib.hid ho
            have Hlowv47 := Lib.hid (below_on Hlowv46.out hb)
            have Hg2v47 := Lib.hid ((hb.block _ (lt_heap Hg2v46.out)).trans Hg2v46.out)
            clear ho hb
            (try go_wp2_with fail)
            refine hK.out _ _ (Hr8.out _ Hlowv47.out) (fun _ => ?_)
            clear hK K
            (try simp only [List.getElem_toArray, List.getElem_cons_succ, List.getElem_cons_zero, Act.put, List.setIfInBounds_toArray, List.set_cons_zero, List.set_cons_succ])
            refine wpAnyH_ready (rs := [3, 4]) (by kernel_rfl) (by simp) ?_
            refine AllReadyH.cons rfl (fun K hK => ?_) ?_
            · go_simp
              go_at_call 22
              refine (HNam.out v47 (H8.out.below Hlowv47.out)).mono ?_
              rintro e v48 ⟨a2, c2, rfl, ho, hb⟩
              have Ho2v48 := Lib.hid ho
              have Hlowv48 := Lib.hid (below_on Hlowv47.out hb)
              have Ho1v48 := Lib.hid (Ho1v47.out.below_ hb)
              have Hg2v48 := Lib.hid ((hb.block _ (lt_heap Hg2v47.out)).trans Hg2v47.out)
              clear ho hb
              (try go_wp2_with fail)
              refine hK.out _ _ (Hr8.out _ Hlowv48.out) (fun _ => ?_)
              clear hK K
              (try simp only [List.getElem_toArray, List.getElem_cons_succ, List.getElem_cons_zero, Act.put, List.setIfInBounds_toArray, List.set_cons_zero, List.set_cons_succ])
              refine wpAnyH_ready (rs := [4]) (by kernel_rfl) (by simp) ?_
              refine AllReadyH.cons rfl (fun K hK => ?_) ?_
              · go_simp
                have hb := on_alloc (Below.refl _ v48) (.cells #[.slice none 0 0] 69)
                have hg := heap_alloc_new v48 (.cells #[.slice none 0 0] 69)
                obtain ⟨G11, hG11⟩ : ∃ G, G = v48.heap.size := ⟨_, rfl⟩
                generalize v48.alloc (.cells #[.slice none 0 0] 69) = v49 at hb hg ⊢
                rw [← hG11] at hg
                rw [← hG11]
                have Hg1v49 := Lib.hid hg
                have Hlowv49 := Lib.hid (below_on Hlowv48.out hb)
                have Ho1v49 := Lib.hid (Ho1v48.out.below_ hb)
                have Ho2v49 := Lib.hid (Ho2v48.out.below_ hb)
                have Hg2v49 := Lib.hid ((hb.block _ (lt_heap Hg2v48.out)).trans Hg2v48.out)
                have HG11 := Lib.hid hG11
                clear hb hg hG11
                have HL11 := Lib.hid (show w8.heap.size ≤ G11 by rw [HG11.out]; exact Hlowv48.out.size)
                refine hK.out _ _ (Hr8.out _ Hlowv49.out) (fun _ => ?_)
                clear hK K
                (try simp only [List.getElem_toArray, List.getElem_cons_succ, List.getElem_cons_zero, Act.put, List.setIfInBounds_toArray, List.set_cons_zero, List.set_cons_succ])
                refine wpAnyH_ready (rs := [6]) (by kernel_rfl) (by simp) ?_
                refine AllReadyH.cons rfl (fun K hK => ?_) ?_
                · have fg := cell1 Hg1v49.out
                  have zg := frozen_of_row _ _ 0 _ _ Hg1v49.out
                  go_simp
                  have hu : Upd (fun b => b = G11) v49 (v49.setCell ⟨G11, 0, none⟩ (.slice a1 L.length c1)) := (Upd.refl _ _).setCell _ _ (fun _ => rfl)
                  have hs := set1 (.slice a1 L.length c1) Hg1v49.out
                  generalize v49.setCell ⟨G11, 0, none⟩ (.slice a1 L.length c1) = v50 at hu hs ⊢
                  have Hg1v50 := Lib.hid hs
                  have Ho1v50 := Lib.hid (Ho1v49.out.kept hu (fun b hb e => (Ho1v49.out.apart Hg1v49.out (by decide)) (e ▸ hb)))
                  have Ho2v50 := Lib.hid (Ho2v49.out.kept hu (fun b hb e => (Ho2v49.out.apart Hg1v49.out (by decide)) (e ▸ hb)))
                  have Hlowv50 := Lib.hid (Hlowv49.out.upd (Nat.le_refl _) hu (fun b hb => by rw [hb]; exact HL11.out))
                  have Hg2v50 := Lib.hid (hu.at_ Hg2v49.out (fun e => by
                    have q1 := Hg2v49.out
                    rw [e, Hg1v49.out] at q1
                    injection q1 with q1
                    injection q1 with _ hT _
                    exact absurd hT (by decide)))
                  clear fg zg hu hs
                  refine hK.out _ _ (Hr8.out _ Hlowv50.out) (fun _ => ?_)
                  clear hK K
                  (try simp only [List.getElem_toArray, List.getElem_cons_succ, List.getElem_cons_zero, Act.put, List.setIfInBounds_toArray, List.set_cons_zero, List.set_cons_succ])
                  refine wpAnyH_ready (rs := [7]) (by kernel_rfl) (by simp) ?_
                  refine AllReadyH.cons rfl (fun K hK => ?_) ?_
                  · have fg := cell1 Hg2v50.out
                    have zg := frozen_of_row _ _ 0 _ _ Hg2v50.out
                    go_simp
                    have hu : Upd (fun b => b = G12) v50 (v50.setCell ⟨G12, 0, none⟩ (.slice a2 n.kids.length c2)) := (Upd.refl _ _).setCell _ _ (fun _ => rfl)
                    have hs := set1 (.slice a2 n.kids.length c2) Hg2v50.out
                    generalize v50.setCell ⟨G12, 0, none⟩ (.slice a2 n.kids.length c2) = v51 at hu hs ⊢
                    have Hg2v51 := Lib.hid hs
                    have Ho1v51 := Lib.hid (Ho1v50.out.kept hu (fun b hb e => (Ho1v50.out.apart Hg2v50.out (by decide)) (e ▸ hb)))
                    have Ho2v51 := Lib.hid (Ho2v50.out.kept hu (fun b hb e => (Ho2v50.out.apart Hg2v50.out (by decide)) (e ▸ hb)))
                    have Hlowv51 := Lib.hid (Hlowv50.out.upd (Nat.le_refl _) hu (fun b hb => by rw [hb]; exact HL12.out))
                    have Hg1v51 := Lib.hid (hu.at_ Hg1v50.out (fun e => by
                      have q1 := Hg1v50.out
                      rw [e, Hg2v50.out] at q1
                      injection q1 with q1
                      injection q1 with _ hT _
                      exact absurd hT (by decide)))
                    clear fg zg hu hs
                    refine hK.out _ _ (Hr8.out _ Hlowv51.out) (fun _ => ?_)
                    clear hK K
                    (try simp only [List.getElem_toArray, List.getElem_cons_succ, List.getElem_cons_zero, Act.put, List.setIfInBounds_toArray, List.set_cons_zero, List.set_cons_succ])
                    refine wpAnyH_done (by kernel_rfl) ?_ _
                    exact ⟨rfl, a1, c1, a2, c2, G11, G12, by simp only [List.setIfInBounds_toArray, List.set_cons_zero, List.set_cons_succ], Hlowv51.out, Ho1v51.out, Ho2v51.out, Hg1v51.out, Hg2v51.out⟩
                  exact AllReadyH.nil
                exact AllReadyH.nil
              exact AllReadyH.nil
            refine AllReadyH.cons rfl (fun K hK => ?_) ?_
            · go_simp
              have hb := on_alloc (Below.refl _ v47) (.cells #[.slice none 0 0] 69)
              have hg := heap_alloc_new v47 (.cells #[.slice none 0 0] 69)
              obtain ⟨G11, hG11⟩ : ∃ G, G = v47.heap.size := ⟨_, rfl⟩
              generalize v47.alloc (.cells #[.slice none 0 0] 69) = v52 at hb hg ⊢
              rw [← hG11] at hg
              rw [← hG11]
              have Hg1v52 := Lib.hid hg
              have Hlowv52 := Lib.hid (below_on Hlowv47.out hb)
              have Ho1v52 := Lib.hid (Ho1v47.out.below_ hb)
              have Hg2v52 := Lib.hid ((hb.block _ (lt_heap Hg2v47.out)).trans Hg2v47.out)
              have HG11 := Lib.hid hG11
              clear hb hg hG11
              have HL11 := Lib.hid (show w8.heap.size ≤ G11 by rw [HG11.out]; exact Hlowv47.out.size)
              refine hK.out _ _ (Hr8.out _ Hlowv52.out) (fun _ => ?_)
              clear hK K
              (try simp only [List.getElem_toArray, List.getElem_cons_succ, List.getElem_cons_zero, Act.put, List.setIfInBounds_toArray, List.set_cons_zero, List.set_cons_succ])
              refine wpAnyH_ready (rs := [3]) (by kernel_rfl) (by simp) ?_
              refine AllReadyH.cons rfl (fun K hK => ?_) ?_
              · go_simp
                go_at_call 22
                refine (HNam.out v52 (H8.out.below Hlowv52.out)).mono ?_
                rintro e v53 ⟨a2, c2, rfl, ho, hb⟩
                have Ho2v53 := Lib.hid ho
                have Hlowv53 := Lib.hid (below_on Hlowv52.out hb)
                have Ho1v53 := Lib.hid (Ho1v52.out.below_ hb)
                have Hg1v53 := Lib.hid ((hb.block _ (lt_heap Hg1v52.out)).trans Hg1v52.out)
                have Hg2v53 := Lib.hid ((hb.block _ (lt_heap Hg2v52.out)).trans Hg2v52.out)
                clear ho hb
                (try go_wp2_with fail)
                refine hK.out _ _ (Hr8.out _ Hlowv53.out) (fun _ => ?_)
                clear hK K
                (try simp only [List.getElem_toArray, List.getElem_cons_succ, List.getElem_cons_zero, Act.put, List.setIfInBounds_toArray, List.set_cons_zero, List.set_cons_succ])
                refine wpAnyH_ready (rs := [6]) (by kernel_rfl) (by simp) ?_
                refine AllReadyH.cons rfl (fun K hK => ?_) ?_
                · have fg := cell1 Hg1v53.out
                  have zg := frozen_of_row _ _ 0 _ _ Hg1v53.out
                  go_simp
                  have hu : Upd (fun b => b = G11) v53 (v53.setCell ⟨G11, 0, none⟩ (.slice a1 L.length c1)) := (Upd.refl _ _).setCell _ _ (fun _ => rfl)
                  have hs := set1 (.slice a1 L.length c1) Hg1v53.out
                  generalize v53.setCell ⟨G11, 0, none⟩ (.slice a1 L.length c1) = v54 at hu hs ⊢
                  have Hg1v54 := Lib.hid hs
                  have Ho1v54 := Lib.hid (Ho1v53.out.kept hu (fun b hb e => (Ho1v53.out.apart Hg1v53.out (by decide)) (e ▸ hb)))
                  have Ho2v54 := Lib.hid (Ho2v53.out.kept hu (fun b hb e => (Ho2v53.out.apart Hg1v53.out (by decide)) (e ▸ hb)))
                  have Hlowv54 := Lib.hid (Hlowv53.out.upd (Nat.le_refl _) hu (fun b hb => by rw [hb]; exact HL11.out))
                  have Hg2v54 := Lib.hid (hu.at_ Hg2v53.out (fun e => by
                    have q1 := Hg2v53.out
                    rw [e, Hg1v53.out] at q1
                    injection q1 with q1
                    injection q1 with _ hT _
                    exact absurd hT (by decide)))
                  clear fg zg hu hs
                  refine hK.out _ _ (Hr8.out _ Hlowv54.out) (fun _ => ?_)
                  clear hK K
                  (try simp only [List.getElem_toArray, List.getElem_cons_succ, List.getElem_cons_zero, Act.put, List.setIfInBounds_toArray, List.set_cons_zero, List.set_cons_succ])
                  refine wpAnyH_ready (rs := [7]) (by kernel_rfl) (by simp) ?_
                  refine AllReadyH.cons rfl (fun K hK => ?_) ?_
                  · have fg := cell1 Hg2v54.out
                    have zg := frozen_of_row _ _ 0 _ _ Hg2v54.out
                    go_simp
                    have hu : Upd (fun b => b = G12) v54 (v54.setCell ⟨G12, 0, none⟩ (.slice a2 n.kids.length c2)) := (Upd.refl _ _).setCell _ _ (fun _ => rfl)
                    have hs := set1 (.slice a2 n.kids.length c2) Hg2v54.out
                    generalize v54.setCell ⟨G12, 0, none⟩ (.slice a2 n.kids.length c2) = v55 at hu hs ⊢
                    have Hg2v55 := Lib.hid hs
                    have Ho1v55 := Lib.hid (Ho1v54.out.kept hu (fun b hb e => (Ho1v54.out.apart Hg2v54.out (by decide)) (e ▸ hb)))
                    have Ho2v55 := Lib.hid (Ho2v54.out.kept hu (fun b hb e => (Ho2v54.out.apart Hg2v54.out (by decide)) (e ▸ hb)))
                    have Hlowv55 := Lib.hid (Hlowv54.out.upd (Nat.le_refl _) hu (fun b hb => by rw [hb]; exact HL12.out))
                    have Hg1v55 := Lib.hid (hu.at_ Hg1v54.out (fun e => by
                      have q1 := Hg1v54.out
                      rw [e, Hg2v54.out] at q1
                      injection q1 with q1
                      injection q1 with _ hT _
                      exact absurd hT (by decide)))
                    clear fg zg hu hs
                    refine hK.out _ _ (Hr8.out _ Hlowv55.out) (fun _ => ?_)
                    clear hK K
                    (try simp only [List.getElem_toArray, List.getElem_cons_succ, List.getElem_cons_zero, Act.put, List.setIfInBounds_toArray, List.set_cons_zero, List.set_cons_succ])
                    refine wpAnyH_done (by kernel_rfl) ?_ _
                    exact ⟨rfl, a1, c1, a2, c2, G11, G12, by simp only [List.setIfInBounds_toArray, List.set_cons_zero, List.set_cons_succ], Hlowv55.out, Ho1v55.out, Ho2v55.out, Hg1v55.out, Hg2v55.out⟩
                  exact AllReadyH.nil
                exact AllReadyH.nil
              exact AllReadyH.nil
            exact AllReadyH.nil
          refine AllReadyH.cons rfl (fun K hK => ?_) ?_
          · go_simp
            have hb := on_alloc (Below.refl _ v46) (.cells #[.slice none 0 0] 69)
            have hg := heap_alloc_new v46 (.cells #[.slice none 0 0] 69)
            obtain ⟨G11, hG11⟩ : ∃ G, G = v46.heap.size := ⟨_, rfl⟩
            generalize v46.alloc (.cells #[.slice none 0 0] 69) = v56 at hb hg ⊢
            rw [← hG11] at hg
            rw [← hG11]
            have Hg1v56 := Lib.hid hg
            have Hlowv56 := Lib.hid (below_on Hlowv46.out hb)
            have Hg2v56 := Lib.hid ((hb.block _ (lt_heap Hg2v46.out)).trans Hg2v46.out)
            have HG11 := Lib.hid hG11
            clear hb hg hG11
            have HL11 := Lib.hid (show w8.heap.size ≤ G11 by rw [HG11.out]; exact Hlowv46.out.size)
            refine hK.out _ _ (Hr8.out _ Hlowv56.out) (fun _ => ?_)
            clear hK K
            (try simp only [List.getElem_toArray, List.getElem_cons_succ, List.getElem_cons_zero, Act.put, List.setIfInBounds_toArray, List.set_cons_zero, List.set_cons_succ])
            refine wpAnyH_ready (rs := [1]) (by kernel_rfl) (by simp) ?_
            refine AllReadyH.cons rfl (fun K hK => ?_) ?_
            · go_simp
              go_at_call 21
              refine (HAll.out v56 (H8.out.below Hlowv56.out)).mono ?_
              rintro e v57 ⟨a1, c1, rfl, ho, hb⟩
              have Ho1v57 := Lib.hid ho
              have Hlowv57 := Lib.hid (below_on Hlowv56.out hb)
              have Hg1v57 := Lib.hid ((hb.block _ (lt_heap Hg1v56.out)).trans Hg1v56.out)
              have Hg2v57 := Lib.hid ((hb.block _ (lt_heap Hg2v56.out)).trans Hg2v56.out)
              clear ho hb
              (try go_wp2_with fail)
              refine hK.out _ _ (Hr8.out _ Hlowv57.out) (fun _ => ?_)
              clear hK K
              (try simp only [List.getElem_toArray, List.getElem_cons_succ, List.getElem_cons_zero, Act.put, List.setIfInBounds_toArray, List.set_cons_zero, List.set_cons_succ])
              refine wpAnyH_ready (rs := [3]) (by kernel_rfl) (by simp) ?_
              refine AllReadyH.cons rfl (fun K hK => ?_) ?_
              · go_simp
                go_at_call 22
                refine (HNam.out v57 (H8.out.below Hlowv57.out)).mono ?_
                rintro e v58 ⟨a2, c2, rfl, ho, hb⟩
                have Ho2v58 := Lib.hid ho
                have Hlowv58 := Lib.hid (below_on Hlowv57.out hb)
                have Ho1v58 := Lib.hid (Ho1v57.out.below_ hb)
                have Hg1v58 := Lib.hid ((hb.block _ (lt_heap Hg1v57.out)).trans Hg1v57.out)
                have Hg2v58 := Lib.hid ((hb.block _ (lt_heap Hg2v57.out)).trans Hg2v57.out)
                clear ho hb
                (try go_wp2_with fail)
                refine hK.out _ _ (Hr8.out _ Hlowv58.out) (fun _ => ?_)
                clear hK K
                (try simp only [List.getElem_toArray, List.getElem_cons_succ, List.getElem_cons_zero, Act.put, List.setIfInBounds_toArray, List.set_cons_zero, List.set_cons_succ])
                refine wpAnyH_ready (rs := [6]) (by kernel_rfl) (by simp) ?_
                refine AllReadyH.cons rfl (fun K hK => ?_) ?_
                · have fg := cell1 Hg1v58.out
                  have zg := frozen_of_row _ _ 0 _ _ Hg1v58.out
                  go_simp
                  have hu : Upd (fun b => b = G11) v58 (v58.setCell ⟨G11, 0, none⟩ (.slice a1 L.length c1)) := (Upd.refl _ _).setCell _ _ (fun _ => rfl)
                  have hs := set1 (.slice a1 L.length c1) Hg1v58.out
                  generalize v58.setCell ⟨G11, 0, none⟩ (.slice a1 L.length c1) = v59 at hu hs ⊢
                  have Hg1v59 := Lib.hid hs
                  have Ho1v59 := Lib.hid (Ho1v58.out.kept hu (fun b hb e => (Ho1v58.out.apart Hg1v58.out (by decide)) (e ▸ hb)))
                  have Ho2v59 := Lib.hid (Ho2v58.out.kept hu (fun b hb e => (Ho2v58.out.apart Hg1v58.out (by decide)) (e ▸ hb)))
                  have Hlowv59 := Lib.hid (Hlowv58.out.upd (Nat.le_refl _) hu (fun b hb => by rw [hb]; exact HL11.out))
                  have Hg2v59 := Lib.hid (hu.at_ Hg2v58.out (fun e => by
                    have q1 := Hg2v58.out
                    rw [e, Hg1v58.out] at q1
                    injection q1 with q1
                    injection q1 with _ hT _
                    exact absurd hT (by decide)))
                  clear fg zg hu hs
                  refine hK.out _ _ (Hr8.out _ Hlowv59.out) (fun _ => ?_)
                  clear hK K
                  (try simp only [List.getElem_toArray, List.getElem_cons_succ, List.getElem_cons_zero, Act.put, List.setIfInBounds_toArray, List.set_cons_zero, List.set_cons_succ])
                  refine wpAnyH_ready (rs := [7]) (by kernel_rfl) (by simp) ?_
                  refine AllReadyH.cons rfl (fun K hK => ?_) ?_
                  · have fg := cell1 Hg2v59.out
                    have zg := frozen_of_row _ _ 0 _ _ Hg2v59.out
                    go_simp
                    have hu : Upd (fun b => b = G12) v59 (v59.setCell ⟨G12, 0, none⟩ (.slice a2 n.kids.length c2)) := (Upd.refl _ _).setCell _ _ (fun _ => rfl)
                    have hs := set1 (.slice a2 n.kids.length c2) Hg2v59.out
                    generalize v59.setCell ⟨G12, 0, none⟩ (.slice a2 n.kids.length c2) = v60 at hu hs ⊢
                    have Hg2v60 := Lib.hid hs
                    have Ho1v60 := Lib.hid (Ho1v59.out.kept hu (fun b hb e => (Ho1v59.out.apart Hg2v59.out (by decide)) (e ▸ hb)))
                    have Ho2v60 := Lib.hid (Ho2v59.out.kept hu (fun b hb e => (Ho2v59.out.apart Hg2v59.out (by decide)) (e ▸ hb)))
                    have Hlowv60 := Lib.hid (Hlowv59.out.upd (Nat.le_refl _) hu (fun b hb => by rw [hb]; exact HL12.out))
                    have Hg1v60 := Lib.hid (hu.at_ Hg1v59.out (fun e => by
                      have q1 := Hg1v59.out
                      rw [e, Hg2v59.out] at q1
                      injection q1 with q1
                      injection q1 with _ hT _
                      exact absurd hT (by decide)))
                    clear fg zg hu hs
                    refine hK.out _ _ (Hr8.out _ Hlowv60.out) (fun _ => ?_)
                    clear hK K
                    (try simp only [List.getElem_toArray, List.getElem_cons_succ, List.getElem_cons_zero, Act.put, List.setIfInBounds_toArray, List.set_cons_zero, List.set_cons_succ])
                    refine wpAnyH_done (by kernel_rfl) ?_ _
                    exact ⟨rfl, a1, c1, a2, c2, G11, G12, by simp only [List.setIfInBounds_toArray, List.set_cons_zero, List.set_cons_succ], Hlowv60.out, Ho1v60.out, Ho2v60.out, Hg1v60.out, Hg2v60.out⟩
                  exact AllReadyH.nil
                exact AllReadyH.nil
              exact AllReadyH.nil
            exact AllReadyH.nil
          exact AllReadyH.nil
        exact AllReadyH.nil
      case aft =>
        rintro a' w9 ⟨a1, c1, a2, c2, g11, g12, rfl, hlow, ho1, ho2, hg1, hg2⟩
        simp only [List.setIfInBounds_toArray, List.set_cons_zero, List.set_cons_succ]
        have h9 := H8.out.below hlow
        have hLM : L.length = n.cnt := by rw [HL.out]; exact allOf_length n _
        have hM6 : L.length ≤ 1000000 := by rw [hLM]; exact Nat.le_trans (cnt_le_parts n) Hpt.out
        have hu89 := Upd.below hlow (fun _ => False)
        obtain ⟨B0, hB0⟩ : ∃ B, B = w9.heap.size := ⟨_, rfl⟩
        have hS : WSt w w9 B0 b2 b9 b10 tc ta g11 g12 p d (d + 1) n a c L.length a1 c1 a2 c2 := by
          refine ⟨?_, h9.box, hu89.at_ K9.out id, hu89.at_ K10.out id, hu89.at_ Ht8.out.1 id, hu89.at_ Ht8.out.2 id, hg1, hg2, h9.src.mono (fun b _ hl => by rw [hB0]; exact hl), TreeAt.mono (fun b _ hl => by rw [hB0]; exact hl) _ _ _ h9.tree, by rw [← HL.out]; exact ho1.sl, fun b hb => ?_, ho2.sl, fun b hb => ?_, h9.low⟩
          · rw [hB0]
            have := h9.low.size
            exact ⟨lt_heap h9.box, lt_heap (hu89.at_ K9.out id), lt_heap (hu89.at_ K10.out id), lt_heap (hu89.at_ Ht8.out.1 id), lt_heap (hu89.at_ Ht8.out.2 id), lt_heap hg1, lt_heap hg2, this⟩
          · rw [hB0]; exact ho1.lt (by rw [own_ob]; exact hb)
          · rw [hB0]; exact ho2.lt (by rw [own_ob]; exact hb)
        obtain ⟨an2, ak2, cn2, ck2, ps, hT⟩ : ∃ (an2 ak2 : Option Addr) (cn2 ck2 : Nat) (ps : List Nat), WTt w9 B0 p d n an2 ak2 cn2 ck2 ps := by
          obtain ⟨q1, q2, q3, an2, ak2, cn2, ck2, ps, q4, q5, q6, q7, q8, q9, q10, q11, q12⟩ := hS.tree
          have tro := trow_at (o := 0) q2 (rangeAt_row q4)
          exact ⟨an2, ak2, cn2, ck2, ps, by simpa using tro.2.2.1, by simpa using tro.2.2.2.1, q5, q6, fun b hb => q7 b (by rw [own_ob]; exact hb), fun b hb => q8 b (by rw [own_ob]; exact hb), q9, fun j q x h1 h2 => (q12 j q x h1 h2).2, q1⟩
        have HS := Lib.hid hS
        have HT := Lib.hid hT
        have HB0 := Lib.hid hB0
        have hwf := treeAt_wf (d + 1) p n hS.tree ⟨#[]⟩
        have Hwf := Lib.hid (show ∀ x ∈ L, x.2.1.wf by rw [HL.out]; exact hwf)
        obtain ⟨M, hM⟩ : ∃ M, M = L.length := ⟨_, rfl⟩
        have HM := Lib.hid hM
        rw [← hM] at hM6 hLM
        have HLM := Lib.hid hLM
        rw [← hM]
        obtain ⟨st, hmax⟩ : ∃ st : Int, (if stop < 1 then (1 : Int) else stop) = st := ⟨_, rfl⟩
        have hst1 : 1 ≤ st := by rw [← hmax]; split <;> omega
        have hst2 : i64 st := by unfold i64 at hst ⊢; rw [← hmax]; split <;> omega
        have Hst2 := Lib.hid hst2
        clear hlow ho1 ho2 hg1 hg2 h9 hLM hu89 hB0 hS hT hwf hst2 hM hst
        go_wp2_with fail
        clear hmax
        have Hkeep := Lib.hid (show ∀ wx, Below w9.heap.size w9 wx → WSt w wx B0 b2 b9 b10 tc ta g11 g12 p d (d + 1) n a c M a1 c1 a2 c2 from fun wx hb => by rw [HM.out]; exact HS.out.below hb)
        go_loopw [13] (fun i wr => ∃ k : Nat, k ≤ 3 ∧ i = .int .i64 k ∧ Below w9.heap.size w9 wr) (fun i _ => 3 - (intOf i).toNat)
        case atStart => exact ⟨0, Nat.zero_le _, rfl, Below.refl _ _⟩
        case round =>
          obtain ⟨k, hk, rfl, hbr⟩ := hrel
          have hs := Hkeep.out wr hbr
          have fa := cell1 hs.ha
          have Hs := Lib.hid hs
          have Hbr := Lib.hid hbr
          have hspot := fun (lim : Int) (hl : i64 lim) => spots_ok (fun b => b < B0) (d + 1) wr ta p n lim hs.tree (fun b hb => by have h1 := HB0.out; have h2 := hbr.size; omega) Hpt.out (cell1 hs.hta) hl
          have Hspot := Lib.hid hspot
          clear hs hbr hspot
          by_cases hlt : k < 3
          · have i3 : (k : Int) < 3 := by omega
            by_cases hk1 : k = 1
            · have e1 : ((k : Int) == 1) = true := by rw [hk1]; rfl
              have e0 : (st == 0) = false := by rw [beq_eq_false_iff_ne]; omega
              have e2 : (0 : Int) < st := by omega
              clear hk1
              go_wp2_with fail
              refine (Hspot.out st Hst2.out).mono ?_
              rintro e w10 ⟨a3, c3, k3, rfl, hk3, hown3, hnew3, hb10⟩
              have hk3M : k3 ≤ M := by rw [hk3, limOf, if_neg (by omega), HLM.out]; exact Nat.min_le_right _ _
              have hmin : (if (M : Int) < st then (M : Int) else st) = (k3 : Int) := by
                have hk4 : k3 = min st.toNat M := by rw [hk3, limOf, if_neg (by omega), HLM.out]
                rw [hk4]
                by_cases hms : (M : Int) < st
                · rw [if_pos hms, Nat.min_eq_right (by omega)]
                · rw [if_neg hms, Nat.min_eq_left (by omega)]; omega
              have hs10 := Hs.out.below hb10
              have fw := cell1 hs10.hw
              have Hb10 := Lib.hid (below_on Hbr.out hb10)
              have Hsp := Lib.hid (show Sl w10 36 (.slice a3 k3 c3) k3 (prows (L.take k3)) by rw [HL.out]; exact hown3.sl)
              have Hwn := Lib.hid (show Sl w10 40 (.slice a1 M c1) M (srows L) by rw [HL.out]; exact hs10.want)
              clear hk3 hown3 hnew3 hb10 hs10 fa
              go_wp2_with fail
              refine (sameSpots_ok w10 a3 a1 c3 c1 k3 M L Hsp.out Hwn.out HM.out.symm hk3M hM6 Hwf.out).mono ?_
              rintro e w11 ⟨rfl, hu11⟩
              have Hb11 := Lib.hid (Hb10.out.upd (Nat.le_refl _) hu11 (fun _ h => h.elim))
              clear hu11 fw
              go_wp2
              go_roundw
              case rel => exact ⟨k + 1, hlt, by go_num, Hb11.out⟩
              case measure => simp [intOf]; omega
            · have e1 : ((k : Int) == 1) = false := by rw [beq_eq_false_iff_ne]; omega
              clear hk1
              go_wp2_with fail
              refine (Hspot.out 0 (by unfold i64; omega)).mono ?_
              rintro e w10 ⟨a3, c3, k3, rfl, hk3, hown3, hnew3, hb10⟩
              have hk3e : k3 = M := by rw [hk3, limOf, if_pos (by omega), HLM.out]
              subst hk3e
              have hk3M : k3 ≤ k3 := Nat.le_refl _
              have hs10 := Hs.out.below hb10
              have fw := cell1 hs10.hw
              have Hb10 := Lib.hid (below_on Hbr.out hb10)
              have Hsp := Lib.hid (show Sl w10 36 (.slice a3 k3 c3) k3 (prows (L.take k3)) by rw [HL.out]; exact hown3.sl)
              have Hwn := Lib.hid (show Sl w10 40 (.slice a1 k3 c1) k3 (srows L) by rw [HL.out]; exact hs10.want)
              clear hk3 hown3 hnew3 hb10 hs10 fa
              go_wp2_with fail
              refine (sameSpots_ok w10 a3 a1 c3 c1 k3 k3 L Hsp.out Hwn.out HM.out.symm hk3M hM6 Hwf.out).mono ?_
              rintro e w11 ⟨rfl, hu11⟩
              have Hb11 := Lib.hid (Hb10.out.upd (Nat.le_refl _) hu11 (fun _ h => h.elim))
              clear hu11 fw
              go_wp2
              go_roundw
              case rel => exact ⟨k + 1, hlt, by go_num, Hb11.out⟩
              case measure => simp [intOf]; omega
          · obtain rfl : k = 3 := by omega
            clear hlt fa Hspot
            have fw := cell1 Hs.out.hw
            have HJ := Lib.hid (show ∀ (wx : World), WSt w wx B0 b2 b9 b10 tc ta g11 g12 p d (d + 1) n a c M a1 c1 a2 c2 → B0 ≤ wx.heap.size → ∀ (b17 b18 : Nat), B0 ≤ b17 → B0 ≤ b18 → wx.heap[b18]? = some (.cells #[.bool true] 4 (0, 0)) → wx.heap[b17]? = some (.cells #[.int .i64 0] 3 (0, 0)) →
                Calls Try.prog 79 #[.func (.func 25) #[] #[.pointer (some ⟨b10, 0, none⟩), .pointer (some ⟨b18, 0, none⟩), .pointer (some ⟨g11, 0, none⟩), .pointer (some ⟨b17, 0, none⟩)], .pointer (some ⟨ta, 0, none⟩)] wx fun e w' => (∃ v, e = .returned v) ∧ w'.heap[b18]? = some (.cells #[.bool true] 4 (0, 0)) ∧ w'.heap[b17]? = some (.cells #[.int .i64 (M : Nat)] 3 (0, 0)) ∧ Upd (fun b => B0 ≤ b) wx w' from fun wx hsx hbx b17 b18 h17 h18 k18 k17 => by
              refine (all1_ok (fun b => b < B0) (d + 1) wx ta p n 25 _ (fun b => B0 ≤ b) (fun i W' => WSt w W' B0 b2 b9 b10 tc ta g11 g12 p d (d + 1) n a c M a1 c1 a2 c2 ∧ W'.heap[b18]? = some (.cells #[.bool true] 4 (0, 0)) ∧ W'.heap[b17]? = some (.cells #[.int .i64 (i : Nat)] 3 (0, 0))) (fun _ => False) (enters_of Try.func25 (by kernel_rfl) rfl) ?_ hsx.tree (fun b hb => by omega) Hpt.out (cell1 hsx.hta) ⟨hsx, k18, k17⟩).mono ?_
              · rintro i x W' hx ⟨q1, q2, q3⟩
                refine (walks1_ok w W' B0 b2 b9 b10 tc ta g11 g12 p d (d + 1) n a c M a1 c1 a2 c2 b18 b17 i x q1 Hpt.out HLM.out.symm q2 q3 h18 h17 hx).mono ?_
                rintro e W2 ⟨rfl, k1, k2, k3⟩
                exact .inl ⟨rfl, ⟨q1.kept k3, k1, k2⟩, k3⟩
              · rintro e w' ⟨q1, q2 | q2, q3⟩
                · exact ⟨q1, q2.2.1, by rw [HLM.out]; exact q2.2.2, q3⟩
                · exact q2.elim)
            have HC := Lib.hid (show ∀ (wx : World), WSt w wx B0 b2 b9 b10 tc ta g11 g12 p d (d + 1) n a c M a1 c1 a2 c2 → WTt wx B0 p d n an2 ak2 cn2 ck2 ps → ∀ (b19 b20 : Nat), B0 ≤ b19 → B0 ≤ b20 → wx.heap[b20]? = some (.cells #[.bool true] 4 (0, 0)) → wx.heap[b19]? = some (.cells #[.int .i64 0] 3 (0, 0)) →
                Calls Try.prog 78 #[.func (.func 26) #[] #[.pointer (some ⟨g12, 0, none⟩), .pointer (some ⟨b9, 0, none⟩), .pointer (some ⟨b20, 0, none⟩), .pointer (some ⟨b2, 0, none⟩), .pointer (some ⟨b19, 0, none⟩)], .pointer (some ⟨tc, 0, none⟩)] wx fun e w' => (∃ v, e = .returned v) ∧ w'.heap[b20]? = some (.cells #[.bool true] 4 (0, 0)) ∧ w'.heap[b19]? = some (.cells #[.int .i64 (n.kids.length : Nat)] 3 (0, 0)) ∧ Upd (fun b => b = b20 ∨ b = b19) wx w' from fun wx hsx htx b19 b20 h19 h20 k20 k19 => by
              have hpl := htx.psl
              have hkn : ∀ j : Fin n.kids.length, n.kids ≠ [] := fun j e => by
                have h1 := j.2
                have h2 : n.kids.length = 0 := by rw [e]; rfl
                omega
              have hS : ∀ b, b < B0 → ¬ (b = b20 ∨ b = b19) := fun b hb => by omega
              have hme : n.kids.length ≤ 1000000 := by have h1 := partsAll_len n.kids; have := parts_eq n; have := Hpt.out; omega
              refine (childrenD_ok wx (fun b => b = b20 ∨ b = b19) tc p n.kids.length an2 ak2 cn2 ck2 (fun j => n.kids[j.1].name) (fun j => ps[j.1]'(by rw [hpl]; exact j.2)) 26 _
                (fun k W' => W'.heap[b20]? = some (.cells #[.bool true] 4 (0, 0)) ∧ W'.heap[b19]? = some (.cells #[.int .i64 (k : Nat)] 3 (0, 0)) ∧ Upd (fun b => b = b20 ∨ b = b19) wx W') (fun _ => False)
                (enters_of Try.func26 (by kernel_rfl) rfl) ?_ hme (cell1 hsx.htc) (hS tc hsx.lt.2.2.2.1) htx.p39 htx.p40 (hS p htx.plt) (fun j => ?_) (fun j => ?_) ⟨k20, k19, Upd.refl _ _⟩).mono ?_
              · rintro j W' ⟨q1, q2, q3⟩
                have hjp : j.1 < ps.length := by rw [hpl]; exact j.2
                have hu : Upd (fun b => B0 ≤ b) wx W' := q3.mono (fun b _ hb => by show B0 ≤ b; omega)
                refine (walks2_ok w W' B0 b2 b9 b10 tc ta g11 g12 p d (d + 1) n a c M a1 c1 a2 c2 d an2 ak2 cn2 ck2 ps b20 b19 j.1 n.kids[j.1] ps[j.1] n.kids.length (hsx.kept hu) (htx.kept hu) Hpt.out Hkd.out rfl (List.getElem?_eq_getElem j.2) (List.getElem?_eq_getElem hjp) q1 q2 h20 h19).mono ?_
                rintro e W2 ⟨rfl, k1, k2, k3⟩
                exact .inl ⟨rfl, ⟨k1, k2, q3.trans k3⟩, k3⟩
              · obtain ⟨g, off, he, _, hc⟩ := htx.ns.open_ (by simp [strs]; have := j.2; omega)
                subst he
                exact ⟨g, off, rfl, hS g (htx.nlt g rfl (hkn j)), hc j.1 (.string n.kids[j.1].name) (by simp [strs])⟩
              · have hjp : j.1 < ps.length := by rw [hpl]; exact j.2
                obtain ⟨g, off, he, _, hc⟩ := htx.ks.open_ (by simp [ptrs]; omega)
                subst he
                exact ⟨g, off, rfl, hS g (htx.klt g rfl (hkn j)), hc j.1 (.pointer (some ⟨ps[j.1], 0, none⟩)) (by simp [ptrs, hjp])⟩
              · rintro e w' ⟨h1, h2 | h2, h3⟩
                · exact ⟨h1, h2.1, h2.2.1, h2.2.2⟩
                · exact h2.elim)
            by_cases h30 : M ≤ 30
            · have i30 : (M : Int) ≤ 30 := by omega
              have hb17 := on_alloc (on_alloc (Below.refl _ wr) (.cells #[.int .i64 0] 3)) (.cells #[.bool true] 4)
              have k17 := (Below.heap_alloc (wr.alloc (.cells #[.int .i64 0] 3)) (.cells #[.bool true] 4) wr.heap.size (by simp)).trans (heap_alloc_new wr (.cells #[.int .i64 0] 3))
              have k18 := heap_alloc_new (wr.alloc (.cells #[.int .i64 0] 3)) (.cells #[.bool true] 4)
              rw [World.size_alloc] at k18
              have hs17 := Hs.out.below hb17
              have fa := cell1 hs17.ha
              have hBs : B0 ≤ wr.heap.size := by rw [HB0.out]; exact Hbr.out.size
              have Hcall := Lib.hid (HJ.out _ hs17 (by simp; omega) wr.heap.size (wr.heap.size + 1) hBs (by omega) k18 k17)
              have Hb17 := Lib.hid hb17
              clear hb17 k17 k18 hs17
              go_wp2_with fail
              refine Hcall.out.mono ?_
              rintro e w12 ⟨⟨vr, rfl⟩, k18, k17, hu12⟩
              have f18 := cell1 k18
              have f17 := cell1 k17
              have hu12' : Upd (fun b => B0 ≤ b) w9 w12 := (Upd.below (below_on Hbr.out Hb17.out) _).then hu12 (fun _ _ h => h)
              have hs12 : WSt w w12 B0 b2 b9 b10 tc ta g11 g12 p d (d + 1) n a c M a1 c1 a2 c2 := by rw [HM.out]; exact HS.out.kept hu12'
              have ht12 := HT.out.kept hu12'
              have hBs12 : B0 ≤ w12.heap.size := by rw [HB0.out]; exact hu12'.size
              have fw := cell1 hs12.hw
              have Hs12 := Lib.hid hs12
              have Ht12 := Lib.hid ht12
              clear fa k18 k17 hu12 hu12' hs12 ht12
              have hb19 := on_alloc (on_alloc (Below.refl _ w12) (.cells #[.int .i64 0] 3)) (.cells #[.bool true] 4)
              have k19 := (Below.heap_alloc (w12.alloc (.cells #[.int .i64 0] 3)) (.cells #[.bool true] 4) w12.heap.size (by simp)).trans (heap_alloc_new w12 (.cells #[.int .i64 0] 3))
              have k20 := heap_alloc_new (w12.alloc (.cells #[.int .i64 0] 3)) (.cells #[.bool true] 4)
              rw [World.size_alloc] at k20
              have hs19 := Hs12.out.below hb19
              have ht19 := Ht12.out.kept (Upd.below hb19 _)
              have fc := cell1 hs19.hc
              have Hcall2 := Lib.hid (HC.out _ hs19 ht19 w12.heap.size (w12.heap.size + 1) hBs12 (by omega) k20 k19)
              have Hb19 := Lib.hid hb19
              clear hb19 k19 k20 hs19 ht19
              go_wp2_with fail
              refine Hcall2.out.mono ?_
              rintro e w14 ⟨⟨vr2, rfl⟩, k20, k19, hu14⟩
              have f20 := cell1 k20
              have f19 := cell1 k19
              have hs14 := (Hs12.out.below Hb19.out).kept (hu14.mono (fun b _ hb => by show B0 ≤ b; omega))
              have fn := cell1 hs14.hn
              have Hs14 := Lib.hid hs14
              clear fc k20 k19 hu14 hs14 fw
              go_wp2
              go_ret
              exact ⟨rfl, Hs14.out.low⟩
            · have i30 : ¬ (M : Int) ≤ 30 := by omega
              obtain ⟨w12, hw12⟩ : ∃ w12, w12 = wr := ⟨_, rfl⟩
              have Hs12 := Lib.hid (show WSt w w12 B0 b2 b9 b10 tc ta g11 g12 p d (d + 1) n a c M a1 c1 a2 c2 by rw [hw12]; exact Hs.out)
              have Ht12 := Lib.hid (show WTt w12 B0 p d n an2 ak2 cn2 ck2 ps by rw [hw12]; exact HT.out.kept (Upd.below Hbr.out _))
              have hBs12 : B0 ≤ w12.heap.size := by rw [hw12, HB0.out]; exact Hbr.out.size
              rw [← hw12] at fw ⊢
              clear hw12
              have hb19 := on_alloc (on_alloc (Below.refl _ w12) (.cells #[.int .i64 0] 3)) (.cells #[.bool true] 4)
              have k19 := (Below.heap_alloc (w12.alloc (.cells #[.int .i64 0] 3)) (.cells #[.bool true] 4) w12.heap.size (by simp)).trans (heap_alloc_new w12 (.cells #[.int .i64 0] 3))
              have k20 := heap_alloc_new (w12.alloc (.cells #[.int .i64 0] 3)) (.cells #[.bool true] 4)
              rw [World.size_alloc] at k20
              have hs19 := Hs12.out.below hb19
              have ht19 := Ht12.out.kept (Upd.below hb19 _)
              have fc := cell1 hs19.hc
              have Hcall2 := Lib.hid (HC.out _ hs19 ht19 w12.heap.size (w12.heap.size + 1) hBs12 (by omega) k20 k19)
              have Hb19 := Lib.hid hb19
              clear hb19 k19 k20 hs19 ht19
              go_wp2_with fail
              refine Hcall2.out.mono ?_
              rintro e w14 ⟨⟨vr2, rfl⟩, k20, k19, hu14⟩
              have f20 := cell1 k20
              have f19 := cell1 k19
              have hs14 := (Hs12.out.below Hb19.out).kept (hu14.mono (fun b _ hb => by show B0 ≤ b; omega))
              have fn := cell1 hs14.hn
              have Hs14 := Lib.hid hs14
              clear fc k20 k19 hu14 hs14 fw
              go_wp2
              go_ret
              exact ⟨rfl, Hs14.out.low⟩
    · have hE1 : (E == 0) = false := by rw [beq_eq_false_iff_ne]; exact hE0
      clear hb4
      go_wp2
      go_ret
      exact ⟨rfl, Hb4.out⟩
end Go.Proofs.Ythnbinlllmkabaa
