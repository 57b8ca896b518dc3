/- The room: lists of bytes laid with marks behind them. -/
import Derived.Test.YtefobboakikpbaaDoorParts
namespace Go.Proofs.YtefobboakikpbaaDoor
open Go.RowKit
set_option linter.unusedVariables false
set_option linter.unusedSimpArgs false

/-- The mark of a place behind a list. -/
def mark (i : Nat) : UInt8 := if i % 2 = 0 then 235 else 234
def marks (n : Nat) : List UInt8 := (List.range n).map mark
theorem marks_length (n : Nat) : (marks n).length = n := by simp [marks]
theorem marks_succ (n : Nat) : marks (n + 1) = marks n ++ [mark n] := by simp [marks, List.range_succ]
theorem Sl.made_at (w : World) (g : Nat) (hg : g = w.heap.size) (e : TypeId) (size n c : Nat) (C : Array Value) (xs : List Value) (hx : C.toList = xs) (hs : xs.length = n * size) (hn : n ≤ 9223372036854775807) :
    Sl (w.alloc (.cells C e)) size (.slice (some ⟨g, 0, none⟩) n c) n xs := by
  subst hg
  exact Sl.made w e size n c C (0, 0) xs hx hs hn
theorem lot_any (w : World) (i : Nat) (hi : i ≤ 4611686018427387904) :
    Calls Tryd.prog 64 #[.int .i64 (i : Nat)] w fun e w' => e = .returned (.int .i64 (if i % 2 = 0 then -7701 else -7702)) ∧ w' = w := by
  by_cases h : i % 2 = 0
  · have tb : (((i : Int) % 2) == 0) = true := by rw [beq_iff_eq]; omega
    rw [if_pos h]
    clear h
    go_enter Tryd.func64, Tryd.ntmps64
    go_wp2
    go_ret
    exact ⟨rfl, rfl⟩
  · have tb : (((i : Int) % 2) == 0) = false := by rw [beq_eq_false_iff_ne]; omega
    rw [if_neg h]
    clear h
    go_enter Tryd.func64, Tryd.ntmps64
    go_wp2
    go_ret
    exact ⟨rfl, rfl⟩
/-- At p lies a room, in which lists of bytes, and lists of such, were laid. -/
def RoomAt (w : World) (p : Nat) (vb va vc vd : Value) : Prop :=
  w.heap[p]? = some (.cells #[vb, va, .slice none 0 0, .slice none 0 0, .slice none 0 0, .slice none 0 0, .slice none 0 0, .slice none 0 0, .slice none 0 0, .slice none 0 0, .slice none 0 0, .slice none 0 0, .slice none 0 0, .slice none 0 0, .slice none 0 0, .slice none 0 0, vc, vd,
    .slice none 0 0, .slice none 0 0, .slice none 0 0, .slice none 0 0, .slice none 0 0, .slice none 0 0, .slice none 0 0, .slice none 0 0] 60 (0, 0))
theorem info_int : (Tryd.prog.info? 3).map (fun i => (i.zero, i.size, i.bytes)) = some (some (.int .i64 0), 1, 8) := by kernel_rfl

theorem lot_mark (w : World) (i : Nat) (hi : i ≤ 4611686018427387904) :
    Calls Tryd.prog 64 #[.int .i64 (i : Nat)] w fun e w' => (∃ z : Int, e = .returned (.int .i64 z) ∧ z % 256 = ((mark i).toNat : Int)) ∧ w' = w :=
  (lot_any w i hi).mono fun e w' ⟨he, hw⟩ => ⟨⟨_, he, by unfold mark; split <;> decide⟩, hw⟩
theorem Own.apart {w : World} {e T : TypeId} {size n p : Nat} {v : Value} {xs : List Value} {cs : Array Value} {fr : Nat × Nat} (h : Own w e size v n xs) (hp : w.heap[p]? = some (.cells cs T fr)) (hne : e ≠ T) : v.ownBlock ≠ some p := by
  rcases h.2.2 with ⟨rfl, _⟩ | ⟨g, off, cap, cur, rfl, hg, _⟩
  · simp [Value.ownBlock]
  · intro hk
    have : g = p := by simpa [Value.ownBlock] using hk
    subst this
    rw [hg] at hp
    injection hp with hp
    injection hp with _ h2 _
    exact hne h2
theorem Own.parted {w : World} {e e' : TypeId} {size size' n n' : Nat} {v v' : Value} {xs xs' : List Value} (h : Own w e size v n xs) (h' : Own w e' size' v' n' xs') (hne : e ≠ e') : ∀ k, v.ownBlock = some k → v'.ownBlock ≠ some k := by
  intro k hk hk'
  rcases h.2.2 with ⟨rfl, _⟩ | ⟨g, off, cap, cur, rfl, hg, _⟩
  · simp [Value.ownBlock] at hk
  · have : g = k := by simpa [Value.ownBlock] using hk
    subst this
    exact h'.apart hg (fun e => hne e.symm) hk'
/-- A list of the call's own that grows, of bytes. -/
def Grow8 (w wr : World) (v : Value) (n : Nat) (l : List UInt8) : Prop :=
  Own wr 5 1 v n (bytes l) ∧ (∀ k, v.ownBlock = some k → w.heap.size ≤ k) ∧ Below w.heap.size w wr
theorem Grow8.push {w wr w' : World} {v v' : Value} {n : Nat} {l : List UInt8} {x : UInt8} (h : Grow8 w wr v n l) (o : Obj) (hown : Own w' 5 1 v' (n + 1) (bytes l ++ bytes [x]))
    (hgr : (wr.alloc o).grownBy w' v.ownBlock) (hb : ∀ k, ¬ v.ownBlock = some k → v'.ownBlock = some k → wr.heap.size + 1 ≤ k) : Grow8 w w' v' (n + 1) (l ++ [x]) := by
  obtain ⟨h1, h2, h3⟩ := h
  refine ⟨by rw [bytes_append]; exact hown, fun k hk => ?_, (h3.alloc h3.size o).grown hgr (by have := h3.size; simp; omega) (fun k hk => h2 k hk)⟩
  by_cases hv : v.ownBlock = some k
  · exact h2 k hv
  · have := hb k hv hk
    have := h3.size
    omega

set_option maxHeartbeats 4000000 in
set_option maxRecDepth 100000 in
theorem layBytes_any (w : World) (p : Nat) (ab aa : Option Addr) (cb ca : Nat) (vc vd : Value) (kb : Nat) (hr : RoomAt w p (.slice ab kb cb) (.slice aa kb ca) vc vd) (xb xa : List Value) (hb : Own w 24 1 (.slice ab kb cb) kb xb) (ha : Own w 3 1 (.slice aa kb ca) kb xa) (hkb : kb ≤ 100000)
    (a : Option Addr) (c n : Nat) (l : List UInt8) (hl : Sl w 1 (.slice a n c) n (bytes l)) (hn : l.length = n) (hlen : n ≤ 40000) (room : Nat) (hroom : room ≤ 600) :
    Calls Tryd.prog 62 #[.pointer (some ⟨p, 0, none⟩), .slice a n c, .int .i64 (room : Nat)] w fun e w' =>
      ∃ (af ab' aa' : Option Addr) (cf cb' ca' : Nat), e = .returned (.slice af n (n + room)) ∧ RoomAt w' p (.slice ab' (kb + 1) cb') (.slice aa' (kb + 1) ca') vc vd ∧
        Own w' 24 1 (.slice ab' (kb + 1) cb') (kb + 1) (xb ++ [.slice af (n + room) cf]) ∧ Own w' 3 1 (.slice aa' (kb + 1) ca') (kb + 1) (xa ++ [.int .i64 (n : Nat)]) ∧
        Own w' 5 1 (.slice af (n + room) cf) (n + room) (bytes (l ++ marks room)) ∧ (∀ k, (Value.slice af (n + room) cf).ownBlock = some k → w.heap.size ≤ k) ∧
        (∀ k, (Value.slice ab' (kb + 1) cb').ownBlock = some k → (Value.slice ab kb cb).ownBlock = some k ∨ w.heap.size ≤ k) ∧ (∀ k, (Value.slice aa' (kb + 1) ca').ownBlock = some k → (Value.slice aa kb ca).ownBlock = some k ∨ w.heap.size ≤ k) ∧
        Upd (fun k => k = p ∨ (Value.slice ab kb cb).ownBlock = some k ∨ (Value.slice aa kb ca).ownBlock = some k) w w' := by
  obtain ⟨i0, hi, hz0, hz1, hz2⟩ := info_parts info_byte
  obtain ⟨i1, hi1, hy0, hy1, hy2⟩ := info_parts info_bytes
  obtain ⟨i2, hi2, hx0, hx1, hx2⟩ := info_parts info_int
  have hap : (Value.slice ab kb cb).ownBlock ≠ some p := hb.apart hr (by decide)
  have haq : (Value.slice aa kb ca).ownBlock ≠ some p := ha.apart hr (by decide)
  have hba := hb.parted ha (by decide)
  have hpl : p < w.heap.size := lt_heap hr
  have Hl := Lib.hid hl
  have Hn := Lib.hid hn
  have Hr := Lib.hid hr
  have Hb := Lib.hid hb
  have Ha := Lib.hid ha
  have Hap := Lib.hid hap
  have Haq := Lib.hid haq
  have Hba := Lib.hid hba
  clear hl hn hr hb ha hap haq hba
  go_enter Tryd.func62, Tryd.ntmps62
  go_wp2_with (at_builtin; refine wpList_append_any rfl _ _ 24 rfl 5 i0 (.int .u8 0) 1 1 Tryd.underlying24 hi hz0 hz1 hz2 rfl (by decide) (.slice (some ⟨w.heap.size, 0, none⟩) 0 0) 0 [] (.slice a n c) n (bytes l) rfl rfl (Own.made w 5 1 0 #[] rfl (by decide)) (Hl.out.below (on_alloc (Below.refl _ _) _)) (bytes_one l) (by omega) (by omega) ?_)
  intro a1 c1 w1 hg1 hgr1 hb1
  have H1 : Hid (Grow8 w w1 (.slice a1 n c1) n l) := by
    refine ⟨hg1, fun k hk => ?_, (on_alloc (Below.refl _ _) _).grown hgr1 (by simp) (fun k hk => ?_)⟩
    · by_cases h : (Value.slice (some ⟨w.heap.size, 0, none⟩) 0 0).ownBlock = some k
      · (try simp [Value.ownBlock] at h); omega
      · have := hb1 k h hk; (try simp at this); omega
    · (try simp [Value.ownBlock] at hk); omega
  clear hg1 hgr1 hb1
  go_wp2_with fail
  go_loopw [7, 8] (fun v i wr => ∃ (j q : Nat) (a3 : Option Addr) (c3 : Nat), j ≤ room ∧ i = .int .i64 j ∧ v = .slice a3 q c3 ∧ q = n + j ∧ Grow8 w wr (.slice a3 q c3) q (l ++ marks j)) (fun _ i _ => room - (intOf i).toNat)
  case atStart => exact ⟨0, n, a1, c1, Nat.zero_le _, rfl, rfl, rfl, by simpa [marks] using H1.out⟩
  case round =>
    obtain ⟨j, q, a3, c3, hj, rfl, rfl, hq, hgw⟩ := hrel
    have Hg := Lib.hid hgw
    have Hq := Lib.hid hq
    have hqb : q ≤ 40600 := by omega
    have hqn : n ≤ q := by omega
    clear hgw hq H1
    by_cases hlt : j < room
    · go_wp2_with fail
      refine (lot_mark wr j (by omega)).mono ?_
      rintro e w' ⟨⟨z, rfl, hz⟩, hw⟩
      obtain rfl := hw.symm
      obtain ⟨x, hx⟩ : ∃ x, x = mark j := ⟨_, rfl⟩
      rw [← hx] at hz
      have hms : l ++ marks (j + 1) = (l ++ marks j) ++ [x] := by rw [marks_succ, hx, List.append_assoc]
      have Hms := Lib.hid hms
      clear hx hms
      obtain ⟨pr, hpr⟩ : ∃ pr, pr = l ++ marks j := ⟨_, rfl⟩
      rw [← hpr] at Hg Hms
      clear hpr
      go_wp2_with (at_builtin; refine wpList_append_any rfl _ _ 24 rfl 5 i0 (.int .u8 0) 1 1 Tryd.underlying24 hi hz0 hz1 hz2 rfl (by decide) (.slice a3 q c3) q (bytes pr) (.slice (some ⟨wr.heap.size, 0, none⟩) 1 1) 1 (bytes [x]) rfl rfl (Hg.out.1.kept ((Upd.refl (fun _ => False) wr).alloc _) (fun _ _ => id)) (Sl.made _ _ _ _ _ _ _ _ rfl rfl (by omega)) (bytes_one _) (by omega) (by omega) ?_)
      intro a4 c4 w4 hown4 hgr4 hb4
      have Hg4 := Lib.hid (Hg.out.push (x := x) _ hown4 hgr4 (by simpa using hb4))
      clear hown4 hgr4 hb4
      go_wp2
      go_roundw
      case rel => exact ⟨j + 1, q + 1, a4, c4, hlt, by go_num, rfl, by rw [Hq.out]; omega, by rw [Hms.out]; exact Hg4.out⟩
      case measure => simp [intOf]; omega
    · obtain rfl : j = room := by omega
      have hcap : q ≤ c3 := by
        rcases Hg.out.1.2.2 with ⟨hv, h0⟩ | ⟨_, _, _, _, hv, _, hnc, _⟩
        · injection hv with _ _ hc; omega
        · injection hv with _ _ hc; omega
      have hbl := Hg.out.2.2
      have hr1 := (hbl.block p hpl).trans Hr.out
      have f0 := cell_of_row wr p 0 _ _ _ hr1
      simp at f0
      have z0 := frozen_of_row wr p 0 _ _ hr1
      have Hr1 := Lib.hid hr1
      have Hb1 := Lib.hid (Hb.out.kept (Upd.below hbl fun _ => False) (fun _ _ => id))
      have Ha1 := Lib.hid (Ha.out.kept (Upd.below hbl fun _ => False) (fun _ _ => id))
      clear hbl hr1
      go_wp2_with (at_builtin; refine wpList_append_any rfl _ _ 44 rfl 24 i1 (.slice none 0 0) 1 24 Tryd.underlying44 hi1 hy0 hy1 hy2 rfl (by decide) (.slice ab kb cb) kb xb (.slice (some ⟨wr.heap.size, 0, none⟩) 1 1) 1 [.slice a3 q c3] rfl rfl (Hb1.out.kept ((Upd.refl (fun _ => False) wr).alloc _) (fun _ _ => id)) (Sl.made _ _ _ _ _ _ _ _ rfl rfl (by omega)) (by simp [Value.oneCell']) (by omega) (by omega) ?_)
      intro ab' cb' w5 hown5 hgr5 hb5
      have hu5 : Upd (fun k => (Value.slice ab kb cb).ownBlock = some k) wr w5 := Upd.grown ((Upd.refl _ wr).alloc _) hgr5 (fun k hk _ => hk)
      have hr5 := hu5.at_ Hr1.out Hap.out
      have f0 := cell_of_row w5 p 0 _ _ _ hr5
      simp at f0
      have z0 := frozen_of_row w5 p 0 _ _ hr5
      have hb5' : ∀ k, (Value.slice ab' (kb + 1) cb').ownBlock = some k → (Value.slice ab kb cb).ownBlock = some k ∨ w.heap.size ≤ k := fun k hk => by
        by_cases h : (Value.slice ab kb cb).ownBlock = some k
        · exact .inl h
        · have h1 := hb5 k h hk
          have h2 := Hg.out.2.2.size
          exact .inr (by (try simp at h1); omega)
      have hpw : p < wr.heap.size := Nat.lt_of_lt_of_le hpl Hg.out.2.2.size
      have hfullb : ∀ k, (Value.slice a3 q c3).ownBlock = some k → (Value.slice ab kb cb).ownBlock ≠ some k := fun k hk h => by have h1 := Hg.out.2.1 k hk; have h2 := Hb.out.lt h; omega
      have Hg5 := Lib.hid (Hg.out.1.kept hu5 (fun k hk h => hfullb k hk h))
      have Ha5 := Lib.hid (Ha1.out.kept hu5 (fun k hk h => Hba.out k h hk))
      have Hown5 := Lib.hid hown5
      have Hr5 := Lib.hid hr5
      have Hu5 := Lib.hid hu5
      have Hb5 := Lib.hid hb5'
      clear hown5 hgr5 hb5 hu5 hr5 hb5' hfullb Hr1 Hb1 Ha1
      have f1 := cell_of_row w5 p 1 _ _ _ Hr5.out
      simp at f1
      have z1 := frozen_of_row w5 p 1 _ _ Hr5.out
      have hsz5 : wr.heap.size ≤ w5.heap.size := Hu5.out.size
      go_wp2_with (at_builtin; refine wpList_append_any rfl _ _ 42 rfl 3 i2 (.int .i64 0) 1 8 Tryd.underlying42 hi2 hx0 hx1 hx2 rfl (by decide) (.slice aa kb ca) kb xa (.slice (some ⟨w5.heap.size, 0, none⟩) 1 1) 1 [.int .i64 (n : Nat)] rfl rfl ((Ha5.out.kept (((Upd.refl (fun k => k = p) w5).setCell ⟨p, 0, none⟩ _ (fun _ => rfl)).alloc _) (fun k hk h => Haq.out (by rw [hk, h])))) (Sl.made_at _ _ (by simp [World.setCell]) _ _ _ _ _ _ rfl rfl (by omega)) (by simp [Value.oneCell']) (by omega) (by omega) ?_)
      intro aa' ca' w6 hown6 hgr6 hb6
      have hu6 : Upd (fun k => k = p ∨ (Value.slice aa kb ca).ownBlock = some k) w5 w6 := Upd.grown (((Upd.refl _ w5).setCell ⟨p, 0, none⟩ (.slice ab' (kb + 1) cb') (fun _ => .inl rfl)).alloc _) hgr6 (fun k hk _ => .inr hk)
      have h0 := heap_setCell_same w5 p 0 _ _ (.slice ab' (kb + 1) cb') Hr5.out
      simp at h0
      have hp5 := lt_heap Hr5.out
      have hr6 := (hgr6.block p (by simp [World.setCell]; omega) (fun e => Haq.out e.symm)).trans ((Below.heap_alloc _ _ p (by simpa [World.setCell] using hp5)).trans h0)
      have hvp : (Value.slice ab' (kb + 1) cb').ownBlock ≠ some p := Hown5.out.apart Hr5.out (by decide)
      have hva := Hown5.out.parted Ha5.out (by decide)
      have hfp : (Value.slice a3 q c3).ownBlock ≠ some p := Hg5.out.apart Hr5.out (by decide)
      have hfa := Hg5.out.parted Ha5.out (by decide)
      have Hvb6 := Lib.hid (Hown5.out.kept hu6 (fun k hk h => by rcases h with rfl | h; exact hvp hk; exact hva k hk h))
      have Hg6 := Lib.hid (Hg5.out.kept hu6 (fun k hk h => by rcases h with rfl | h; exact hfp hk; exact hfa k hk h))
      have hap6 : (Value.slice aa' (kb + 1) ca').ownBlock ≠ some p := hown6.apart hr6 (by decide)
      have haa6 : ∀ k, (Value.slice aa' (kb + 1) ca').ownBlock = some k → (Value.slice aa kb ca).ownBlock = some k ∨ w.heap.size ≤ k := fun k hk => by
        by_cases h : (Value.slice aa kb ca).ownBlock = some k
        · exact .inl h
        · have h1 := hb6 k h hk
          have h2 := Hg.out.2.2.size
          exact .inr (by omega)
      have f1 := cell_of_row w6 p 1 _ _ _ hr6
      simp at f1
      have z1 := frozen_of_row w6 p 1 _ _ hr6
      have Hr6 := Lib.hid hr6
      have Hu6 := Lib.hid hu6
      have Hown6 := Lib.hid hown6
      have Hvp := Lib.hid hvp
      have Hfp := Lib.hid hfp
      have Hap6 := Lib.hid hap6
      have Haa6 := Lib.hid haa6
      have i1 : (n : Int) ≤ (q : Int) := by omega
      have i2 : (q : Int) ≤ (c3 : Int) := by omega
      have i3 : (0 : Int) ≤ (n : Int) := by omega
      have i4 : (n : Int) ≤ (c3 : Int) := by omega
      clear h0 hr6 hu6 hown6 hvp hva hfp hfa hap6 haa6 hgr6 hb6 f0 z0 hp5
      go_wp2
      go_ret
      have hs := heap_setCell_same w6 p 1 _ _ (.slice aa' (kb + 1) ca') Hr6.out
      simp at hs
      have hu7 : Upd (fun k => k = p) w6 (w6.setCell ⟨p, 1, none⟩ (.slice aa' (kb + 1) ca')) := (Upd.refl _ _).setCell _ _ (fun _ => rfl)
      rw [← Hq.out]
      refine ⟨a3, ab', aa', c3, cb', ca', rfl, hs, Hvb6.out.kept hu7 (fun k hk h => Hvp.out (h ▸ hk)), Hown6.out.kept hu7 (fun k hk h => Hap6.out (h ▸ hk)), Hg6.out.kept hu7 (fun k hk h => Hfp.out (h ▸ hk)), Hg.out.2.1, Hb5.out, Haa6.out, ?_⟩
      refine Upd.trans ?_ (hu7.mono fun i _ h => .inl h)
      refine Upd.trans ?_ (Hu6.out.mono fun i _ h => h.elim .inl (fun h => .inr (.inr h)))
      refine Upd.trans ?_ (Hu5.out.mono fun i _ h => .inr (.inl h))
      exact Upd.below Hg.out.2.2 _
end Go.Proofs.YtefobboakikpbaaDoor
