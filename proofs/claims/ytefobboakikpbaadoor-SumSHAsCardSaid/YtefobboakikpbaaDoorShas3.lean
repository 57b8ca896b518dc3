/- A list of lists of bytes is laid in a room. -/
import Derived.Test.YtefobboakikpbaaDoorShas2
namespace Go.Proofs.YtefobboakikpbaaDoor
open Go.RowKit
set_option linter.unusedVariables false
set_option linter.unusedSimpArgs false

theorem info_chunks : (Tryd.prog.info? 44).map (fun i => (i.zero, i.size, i.bytes)) = some (some (.slice none 0 0), 1, 24) := by kernel_rfl
theorem Lay1.start (w : World) (p : Nat) (hr : RoomAt w p (.slice none 0 0) (.slice none 0 0) (.slice none 0 0) (.slice none 0 0)) (Ps : List (List UInt8)) :
    Lay1 w (w.alloc (.cells #[] 24)) p 0 none none (some ⟨w.heap.size, 0, none⟩) 0 0 0 [] [] [] Ps := by
  have hu : Upd (fun b => b = p) w (w.alloc (.cells #[] 24)) := (Upd.refl _ _).alloc _
  refine ⟨((Upd.refl (fun _ => False) w).alloc _).at_ hr id, Own.nil _ _ _, Own.nil _ _ _, Own.made w 24 1 0 #[] rfl (by decide), Lots.nil _ _ _, ?_, ?_, ?_, ?_, hu⟩
  · intro b hb; simp [Value.ownBlock] at hb
  · intro b hb; simp [Value.ownBlock] at hb
  · intro b hb; simp [Value.ownBlock] at hb; omega
  · intro b hb; simp [Value.ownBlock]
theorem Own.cap_le {w : World} {e : TypeId} {size n c : Nat} {a : Option Addr} {xs : List Value} (h : Own w e size (.slice a n c) n xs) : n ≤ c := by
  rcases h.2.2 with ⟨hv, h0⟩ | ⟨_, _, _, _, hv, _, hnc, _⟩
  · injection hv with _ _ hc; omega
  · injection hv with _ _ hc; omega
/-- What a room's two last stores leave. -/
theorem Lay2.room_end {w wr w1 w2 w3 w4 : World} {p m : Nat} {ab aa a3 : Option Addr} {cb ca c3 : Nat} {xb xa vs more : List Value} {Ps : List (List UInt8)} (h : Lay2 w wr p m 40 ab aa a3 cb ca c3 xb xa vs more Ps)
    {av ad : Option Addr} {cv cd : Nat} {o1 o2 : Obj} (h1 : Own w1 44 1 (.slice av 1 cv) 1 [.slice a3 (m + 40) c3]) (hg1 : (wr.alloc o1).grownBy w1 none) (hn1 : ∀ b, (Value.slice av 1 cv).ownBlock = some b → wr.heap.size ≤ b)
    (hw2 : w2 = w1.setCell ⟨p, 16, none⟩ (.slice av 1 cv)) (h3 : Own w3 3 1 (.slice ad 1 cd) 1 [.int .i64 (m : Nat)]) (hg3 : (w2.alloc o2).grownBy w3 none) (hn3 : ∀ b, (Value.slice ad 1 cd).ownBlock = some b → w1.heap.size ≤ b)
    (hw4 : w4 = w3.setCell ⟨p, 17, none⟩ (.slice ad 1 cd)) : ChunksAt w w4 p m a3 c3 ab aa av ad cb ca cv cd xb xa vs more Ps := by
  have hu1 : Upd (fun b => b = p) wr w1 := Upd.grown ((Upd.refl _ wr).alloc o1) hg1 (fun b hb => by cases hb)
  have hu1' : Upd (fun _ => False) wr w1 := Upd.grown ((Upd.refl _ wr).alloc o1) hg1 (fun b hb => by cases hb)
  have hr1 := hu1'.at_ h.room id
  have hu2 : Upd (fun b => b = p) w1 w2 := by rw [hw2]; exact (Upd.refl _ _).setCell _ _ (fun _ => rfl)
  have hr2 := heap_setCell_same w1 p 16 _ _ (.slice av 1 cv) hr1
  rw [← hw2] at hr2
  simp at hr2
  have hu3 : Upd (fun b => b = p) w2 w3 := Upd.grown ((Upd.refl _ w2).alloc o2) hg3 (fun b hb => by cases hb)
  have hu3' : Upd (fun _ => False) w2 w3 := Upd.grown ((Upd.refl _ w2).alloc o2) hg3 (fun b hb => by cases hb)
  have hr3 := hu3'.at_ hr2 id
  have hu4 : Upd (fun b => b = p) w3 w4 := by rw [hw4]; exact (Upd.refl _ _).setCell _ _ (fun _ => rfl)
  have hr4 := heap_setCell_same w3 p 17 _ _ (.slice ad 1 cd) hr3
  rw [← hw4] at hr4
  simp at hr4
  have hu : Upd (fun b => b = p) wr w4 := ((hu1.trans hu2).trans hu3).trans hu4
  have hdp : ∀ {e' : TypeId} {v' : Value} {n' : Nat} {xs' : List Value}, Own wr e' 1 v' n' xs' → e' ≠ 60 → ∀ b, v'.ownBlock = some b → ¬ b = p := fun ho hne b hb e => by
    subst e
    exact ho.apart h.room hne hb
  have h1p : ∀ b, (Value.slice av 1 cv).ownBlock = some b → ¬ b = p := fun b hb e => by subst e; exact h1.apart hr1 (by decide) hb
  have h3p : ∀ b, (Value.slice ad 1 cd).ownBlock = some b → ¬ b = p := fun b hb e => by subst e; exact h3.apart hr3 (by decide) hb
  have hwp := h.upd.size
  exact ⟨hr4, h.ob.kept hu (hdp h.ob (by decide)), h.oa.kept hu (hdp h.oa (by decide)), h1.kept ((hu2.trans hu3).trans hu4) h1p, h3.kept hu4 h3p, h.o3.kept hu (hdp h.o3 (by decide)),
    h.lots.kept hu (fun v x z l b hl hb e => hl.apart h.room (by decide) hb e), h.marks.kept hu (fun g z hg _ e => by
      subst e
      have := h.room.symm.trans hg
      injection this with this
      injection this with _ h5 _
      exact absurd h5 (by decide)), h.upd.trans hu⟩
set_option maxHeartbeats 4000000 in
set_option maxRecDepth 100000 in
theorem layChunks_any (w : World) (p : Nat) (hr : RoomAt w p (.slice none 0 0) (.slice none 0 0) (.slice none 0 0) (.slice none 0 0)) (a : Option Addr) (c m : Nat) (Ps : List (List UInt8)) (hP : ∀ wr, Upd (fun b => b = p) w wr → Parts wr (.slice a m c) Ps) (hm : Ps.length = m) (hsum : m + (joinTo Ps m).length ≤ 32768) :
    Calls Tryd.prog 44 #[.pointer (some ⟨p, 0, none⟩), .slice a m c, .int .i64 40] w fun e w' => ∃ (af : Option Addr) (cf : Nat) (ab aa av ad : Option Addr) (cb ca cv cd : Nat) (xb xa vs more : List Value), e = .returned (.slice af m (m + 40)) ∧
      ChunksAt w w' p m af cf ab aa av ad cb ca cv cd xb xa vs more Ps := by
  obtain ⟨i0, hi, hz0, hz1, hz2⟩ := info_parts info_bytes
  obtain ⟨i1, hi1, hy0, hy1, hy2⟩ := info_parts info_chunks
  obtain ⟨i2, hi2, hx0, hx1, hx2⟩ := info_parts info_int
  have hml : m ≤ 32768 := by omega
  have hle : ∀ k, k < m → (Ps.getD k []).length ≤ 32768 := fun k hk => by
    have h1 := joinTo_le Ps (k + 1)
    have h2 : joinTo Ps m = Ps.flatten := by unfold joinTo; rw [List.take_of_length_le (by omega)]
    rw [h2] at hsum
    rw [joinTo_succ Ps k (by omega), List.length_append] at h1
    omega
  have hpl : p < w.heap.size := lt_heap hr
  have hst := Lay1.start w p hr Ps
  have hwa : Upd (fun _ => False) w (w.alloc (.cells #[] 24)) := (Upd.refl _ _).alloc _
  have Hst := Lib.hid hst
  have HP := Lib.hid hP
  have Hm := Lib.hid hm
  have Hle := Lib.hid hle
  clear hP hm hle hsum hr hst hwa
  go_enter Tryd.func44, Tryd.ntmps44
  go_wp2_with fail
  go_loopw [7, 8] (fun v i wr => ∃ (k : Nat) (ab aa a3 : Option Addr) (cb ca c3 : Nat) (xb xa vs : List Value), k ≤ m ∧ i = .int .i64 k ∧ v = .slice a3 k c3 ∧ Lay1 w wr p k ab aa a3 cb ca c3 xb xa vs Ps) (fun _ i _ => m - (intOf i).toNat)
  case atStart => exact ⟨0, none, none, _, 0, 0, 0, [], [], [], Nat.zero_le _, rfl, rfl, Hst.out⟩
  case round =>
    obtain ⟨k, ab, aa, a3, cb, ca, c3, xb, xa, vs, hk, rfl, rfl, hL⟩ := hrel
    have HL := Lib.hid hL
    clear hL
    by_cases hlt : k < m
    · have hPr : Parts wr (.slice a m c) Ps := HP.out wr HL.out.upd
      obtain ⟨g, off, ai, ci, n, rfl, c0, hn, hs, hn2⟩ := hPr.at Hm.out hlt
      have hn32 : n ≤ 32768 := by rw [← hn]; exact Hle.out k hlt
      have Hn := Lib.hid hn
      have Hs := Lib.hid hs
      have j1 : (0 : Int) ≤ (k : Int) := by omega
      have j2 : (k : Int) < (m : Int) := by omega
      clear hn hs hPr
      go_wp2_with fail
      refine (layBytes_any wr p ab aa cb ca _ _ k HL.out.room xb xa HL.out.ob HL.out.oa (by omega) ai ci n (Ps.getD k []) Hs.out Hn.out (by omega) 4 (by omega)).mono ?_
      rintro e w1 ⟨af, ab', aa', cf, cb', ca', rfl, hr1, hb1, ha1, hf1, hnf, hnb, hna, hu1⟩
      have Hr1 := Lib.hid (And.intro hr1 (And.intro hb1 (And.intro ha1 (And.intro hf1 (And.intro hnf (And.intro hnb (And.intro hna hu1)))))))
      have ho3 : Own w1 24 1 (.slice a3 k c3) k vs := HL.out.o3.kept hu1 (fun b hb hS => by
        rcases hS with hS | hS | hS
        · exact HL.out.o3.apart HL.out.room (by decide) (hS ▸ hb)
        · exact HL.out.d3 b hb hS
        · exact HL.out.o3.parted HL.out.oa (by decide) b hb hS)
      have Ho3 := Lib.hid ho3
      clear hr1 hb1 ha1 hf1 hnf hnb hna hu1 ho3 c0
      go_wp2_with (at_builtin; refine wpList_append_any rfl _ _ 44 rfl 24 i0 (.slice none 0 0) 1 24 Tryd.underlying44 hi hz0 hz1 hz2 rfl (by decide) (.slice a3 k c3) k vs (.slice (some ⟨w1.heap.size, 0, none⟩) 1 1) 1 [.slice af n (n + 4)] rfl rfl (Ho3.out.kept ((Upd.refl (fun _ => False) w1).alloc _) (fun _ _ => id)) (Sl.made _ _ _ _ _ _ _ _ rfl rfl (by omega)) (by simp [Value.oneCell']) (by omega) (by omega) ?_)
      intro a5 c5 w5 hown5 hgr5 hb5
      have HL5 := Lib.hid (HL.out.next Hn.out Hr1.out.1 Hr1.out.2.1 Hr1.out.2.2.1 Hr1.out.2.2.2.1 Hr1.out.2.2.2.2.1 Hr1.out.2.2.2.2.2.1 Hr1.out.2.2.2.2.2.2.1 Hr1.out.2.2.2.2.2.2.2 hown5 hgr5 (by simpa using hb5))
      clear hown5 hgr5 hb5 HL Hr1 Ho3
      go_wp2
      go_roundw
      case rel => exact ⟨k + 1, ab', aa', a5, cb', ca', c5, _, _, _, hlt, by go_num, rfl, HL5.out⟩
      case measure => simp [intOf]; omega
    · obtain rfl : k = m := by omega
      clear hk hlt
      have HL2 := Lib.hid HL.out.two
      clear HL Hst HP
      go_wp2_with fail
      go_loopw [7, 9] (fun v i wq => ∃ (j q : Nat) (a4 : Option Addr) (c4 : Nat) (more : List Value), j ≤ 40 ∧ i = .int .i64 j ∧ v = .slice a4 q c4 ∧ q = k + j ∧ Lay2 w wq p k j ab aa a4 cb ca c4 xb xa vs more Ps) (fun _ i _ => 40 - (intOf i).toNat)
      case atStart => exact ⟨0, k, a3, c3, [], Nat.zero_le _, rfl, rfl, rfl, HL2.out⟩
      case round =>
        obtain ⟨j, q, a4, c4, more, hj, rfl, rfl, hq, hL⟩ := hrel
        rename World => wq
        have HL := Lib.hid hL
        have Hq := Lib.hid hq
        have hq1 : q ≤ 40000 := by omega
        clear hL hq HL2
        by_cases hlt : j < 40
        · have hlt' : (j : Int) < 40 := by omega
          go_wp2_with fail
          refine (lot_mark wq j (by omega)).mono ?_
          rintro e w' ⟨⟨z, rfl, hz⟩, hw⟩
          obtain rfl := hw.symm
          have ho3 := HL.out.o3
          rw [← Hq.out] at ho3
          have Ho3 := Lib.hid ho3
          obtain ⟨x, hx⟩ : ∃ x, x = mark j := ⟨_, rfl⟩
          rw [← hx] at hz
          have Hx := Lib.hid hx
          clear hx ho3
          go_wp2_with (at_builtin; refine wpList_append_any rfl _ _ 44 rfl 24 i0 (.slice none 0 0) 1 24 Tryd.underlying44 hi hz0 hz1 hz2 rfl (by decide) (.slice a4 q c4) q (vs ++ more) (.slice (some ⟨wq.heap.size + 1, 0, none⟩) 1 1) 1 [.slice (some ⟨wq.heap.size, 0, none⟩) 1 1] rfl rfl (Ho3.out.kept (((Upd.refl (fun _ => False) wq).alloc _).alloc _) (fun _ _ => id)) (Sl.made_at _ _ (by simp) _ _ _ _ _ _ rfl rfl (by omega)) (by simp [Value.oneCell']) (by omega) (by omega) ?_)
          intro a5 c5 w5 hown5 hgr5 hb5
          have HL5 : Hid (Lay2 w w5 p k (j + 1) ab aa a5 cb ca c5 xb xa vs (more ++ [.slice (some ⟨wq.heap.size, 0, none⟩) 1 1]) Ps) := by
            have hq := Hq.out
            subst hq
            exact HL.out.next (z := (x.toNat : Int)) (by rw [← Hx.out]) ((Upd.refl _ wq).alloc _) (Nat.le_refl _) (heap_alloc_new _ _) hown5 hgr5 (by simpa using hb5)
          clear hown5 hgr5 hb5 HL Ho3 Hx
          go_wp2
          go_roundw
          case rel => exact ⟨j + 1, q + 1, a5, c5, _, hlt, by go_num, rfl, by rw [Hq.out]; omega, HL5.out⟩
          case measure => simp [intOf]; omega
        · obtain rfl : j = 40 := by omega
          have hcap : q ≤ c4 := by rw [Hq.out]; exact HL.out.o3.cap_le
          have f0 := cell_of_row wq p 16 _ _ _ HL.out.room
          simp at f0
          have z0 := frozen_of_row wq p 16 _ _ HL.out.room
          have hk2 : k ≤ q := by rw [Hq.out]; omega
          go_wp2_with (at_builtin; refine wpList_append_any rfl _ _ 54 rfl 44 i1 (.slice none 0 0) 1 24 Tryd.underlying54 hi1 hy0 hy1 hy2 rfl (by decide) (.slice none 0 0) 0 [] (.slice (some ⟨wq.heap.size, 0, none⟩) 1 1) 1 [.slice a4 q c4] rfl rfl (Own.nil _ _ _) (Sl.made _ _ _ _ _ _ _ _ rfl rfl (by omega)) (by simp [Value.oneCell']) (by omega) (by omega) ?_)
          intro av cv w5 hown5 hgr5 hb5
          have hu5 : Upd (fun _ => False) wq w5 := Upd.grown ((Upd.refl _ wq).alloc _) hgr5 (fun b hb => by simp [Value.ownBlock] at hb)
          have hr5 := hu5.at_ HL.out.room id
          have z0 := frozen_of_row w5 p 16 _ _ hr5
          have f0 := cell_of_row w5 p 16 _ _ _ hr5
          have f1 := cell_of_row w5 p 17 _ _ _ hr5
          simp at f0 f1
          have z1 := frozen_of_row w5 p 17 _ _ hr5
          have H5 := Lib.hid (And.intro hown5 (And.intro hgr5 hb5))
          have H5r := Lib.hid hr5
          clear hown5 hgr5 hb5 hu5 hr5
          go_wp2_with (at_builtin; refine wpList_append_any rfl _ _ 42 rfl 3 i2 (.int .i64 0) 1 8 Tryd.underlying42 hi2 hx0 hx1 hx2 rfl (by decide) (.slice none 0 0) 0 [] (.slice (some ⟨w5.heap.size, 0, none⟩) 1 1) 1 [.int .i64 (k : Nat)] rfl rfl (Own.nil _ _ _) (Sl.made_at _ _ (by simp [World.setCell]) _ _ _ _ _ _ rfl rfl (by omega)) (by simp [Value.oneCell']) (by omega) (by omega) ?_)
          intro ad cd w6 hown6 hgr6 hb6
          have hend := Lib.hid (HL.out.room_end (w4 := w6.setCell ⟨p, 17, none⟩ (.slice ad 1 cd)) (by rw [← Hq.out]; exact H5.out.1) H5.out.2.1 (fun b hb => by have := H5.out.2.2 b (by simp [Value.ownBlock]) hb; (try simp at this); omega) rfl hown6 hgr6 (fun b hb => by have := hb6 b (by simp [Value.ownBlock]) hb; (try simp [World.setCell] at this); omega) rfl)
          have hr5s := heap_setCell_same w5 p 16 _ _ (.slice av 1 cv) H5r.out
          simp at hr5s
          have hu6 : Upd (fun _ => False) (w5.setCell ⟨p, 16, none⟩ (.slice av 1 cv)) w6 := Upd.grown ((Upd.refl _ _).alloc _) hgr6 (fun b hb => by simp [Value.ownBlock] at hb)
          have hr6 := hu6.at_ hr5s id
          have f1 := cell_of_row w6 p 17 _ _ _ hr6
          simp at f1
          have z1 := frozen_of_row w6 p 17 _ _ hr6
          have i1 : (k : Int) ≤ (q : Int) := by omega
          have i2 : (q : Int) ≤ (c4 : Int) := by omega
          have i3 : (0 : Int) ≤ (k : Int) := by omega
          have i4 : (k : Int) ≤ (c4 : Int) := by omega
          clear hown6 hgr6 hb6 hr5s hu6 hr6 f0 z0 H5 H5r HL
          go_wp2
          go_ret
          exact ⟨a4, c4, ab, aa, av, ad, cb, ca, cv, cd, xb, xa, vs, more, by rw [Hq.out]; rfl, hend.out⟩
end Go.Proofs.YtefobboakikpbaaDoor
