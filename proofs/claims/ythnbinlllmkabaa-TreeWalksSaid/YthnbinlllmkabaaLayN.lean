/- The room's layNodes, kid, Nodes and Node. -/
import Derived.Test.YthnbinlllmkabaaLay
namespace Go.Proofs.Ythnbinlllmkabaa
open Go.RowKit
set_option linter.unusedVariables false
set_option linter.unusedSimpArgs false

theorem info_nodes : (Try.prog.info? 28).map (fun i => (i.zero, i.size, i.bytes)) = some (some (.slice none 0 0), 1, 24) := by kernel_rfl
theorem info_intF : (Try.prog.info? 3).map (fun i => (i.zero, i.size, i.bytes)) = some (some (.int .i64 0), 1, 8) := by kernel_rfl
def LayOk (d : Nat) : Prop := ∀ (w : World) (lo p : Nat) (ab aa : Option Addr) (cb ca k : Nat) (xb xa : List Value) (ks : List Nd) (m : Nat) (a : Option Addr) (c room : Nat), LogN w lo p ab aa cb ca k xb xa → KidsIn w (fun b => b < lo) d a ks → ks.length = m →
  partsAll ks ≤ 1000000 → k + partsAll ks ≤ 2000000 → 0 < room → room ≤ 40 →
  Calls Try.prog 101 #[.pointer (some ⟨p, 0, none⟩), .slice a m c, .int .i64 (room : Nat)] w fun e w' => ∃ (af : Option Addr), e = .returned (.slice af m (m + room)) ∧ Laid w w.heap.size w' lo p ab aa xb xa d ks af
theorem LogN.len {w : World} {lo p : Nat} {ab aa : Option Addr} {cb ca k : Nat} {xb xa : List Value} (h : LogN w lo p ab aa cb ca k xb xa) : xb.length = k := by have := h.b.1; omega
theorem lay_start {w : World} {lo p : Nat} {ab aa : Option Addr} {cb ca k : Nat} {xb xa : List Value} (h : LogN w lo p ab aa cb ca k xb xa) (d : Nat) :
    Lay w (w.alloc (.cells #[] 30)) lo p ab aa (some ⟨w.heap.size, 0, none⟩) ab aa cb ca k xb xa [] [] d [] [] (fun _ _ => False) := by
  have hu : Upd (fun _ => False) w (w.alloc (.cells #[] 30)) := (Upd.refl _ w).alloc _
  refine ⟨by simpa using h.kept hu (fun _ _ => id), Held.nil _ _, rfl, fun j x a' c' hj => by simp at hj, fun j b hb => hb.elim, fun i j b _ hb => hb.elim, fun b hb => ?_, fun b hb => .inl hb, hu.mono (fun i _ hi => hi.elim)⟩
  have : w.heap.size = b := by simpa [ob] using hb
  subst this
  exact ⟨Nat.le_refl _, _, heap_alloc_new w _⟩
theorem kidsIn_kept {w wr : World} {lo p : Nat} {ab aa : Option Addr} {cb ca k : Nat} {xb xa : List Value} {d : Nat} {a : Option Addr} {ks : List Nd} (hl : LogN w lo p ab aa cb ca k xb xa) (hk : KidsIn w (fun b => b < lo) d a ks) (hu : Upd (LogS p ab aa) w wr) : KidsIn wr (fun b => b < lo) d a ks :=
  KidsIn.kept hu (fun b hb hS => by have := hl.lo b hS; omega) d a ks hk
theorem lay_kid (d : Nat) (ih : LayOk d) (w : World) (lo p : Nat) (ab aa : Option Addr) (cb ca k : Nat) (xb xa : List Value) (hl : LogN w lo p ab aa cb ca k xb xa) (x : Nd) (a : Option Addr) (c : Nat) (hx : NodeIn w (fun b => b < lo) d x a) (hp : partsAll x.kids ≤ 1000000) (hkp : k + partsAll x.kids ≤ 2000000) :
    Calls Try.prog 122 #[.pointer (some ⟨p, 0, none⟩), .agg (x.row a c).toArray] w fun e' w' => ∃ (a' : Option Addr) (c' : Nat), e' = .returned (.agg (x.row a' c').toArray) ∧ Laid w (w.heap.size + 2) w' lo p ab aa xb xa d x.kids a' := by
  have hlt : ∀ b, LogS p ab aa b → b < w.heap.size := fun b hb => hl.lt hb
  refine kid_of p (fun b => b < lo) d w x a c (fun w3 a' _ => Laid w (w.heap.size + 2) w3 lo p ab aa xb xa d x.kids a') hx (fun w2 hb hsz => ?_) (fun w3 w4 a' c' h3 hu => ?_)
  · refine (ih w2 lo p ab aa cb ca k xb xa x.kids x.kids.length a c 4 (hl.kept (Upd.below hb fun _ => False) (fun _ _ => id)) (hx.below hb).kids rfl hp hkp (by omega) (by omega)).mono ?_
    rintro e w3 ⟨af, rfl, h⟩
    refine ⟨af, _, rfl, fun b h1 h2 => ?_, by rw [← hsz]; exact h.from hb⟩
    obtain ⟨_, _, _, _, _, _, _, _, _, _, _, _, hu⟩ := h
    exact hu.block b h2 (fun hS => by have := hlt b hS; omega)
  · exact h3.kept hu (fun b hb => by rcases hb with rfl | rfl <;> omega) hlt
set_option maxHeartbeats 4000000 in
set_option maxRecDepth 100000 in
theorem lay_step (d : Nat) (ih : ∀ e, d = e + 1 → LayOk e) : LayOk d := by
  intro w lo p ab aa cb ca k xb xa ks m a c room hl hk hm hp1 hp2 hr1 hr2
  obtain ⟨i0, hi, hz0, hz1, hz2⟩ := info_parts info_nodeF
  obtain ⟨i1, hi1, hy0, hy1, hy2⟩ := info_parts info_nodes
  obtain ⟨i2, hi2, hx0, hx1, hx2⟩ := info_parts info_intF
  have Ih := Lib.hid ih
  have hme : m ≤ 1000000 := by have := partsAll_len ks; omega
  have Hl := Lib.hid hl
  have Hk := Lib.hid hk
  have Hm := Lib.hid hm
  have Hp1 := Lib.hid hp1
  have Hp2 := Lib.hid hp2
  have Hst := Lib.hid (lay_start hl (d - 1))
  clear ih hl hk hm hp1 hp2
  go_enter Try.func101, Try.ntmps101
  go_wp2_with fail
  go_loopw [7, 8] (fun v i wr => ∃ (q : Nat) (a3 : Option Addr) (c3 : Nat) (al : List (Option Addr × Nat)) (ab' aa' : Option Addr) (cb' ca' kk : Nat) (nb na : List Value) (Fs : Nat → Nat → Prop), q ≤ m ∧ i = .int .i64 q ∧ v = .slice a3 q c3 ∧ Own wr 30 41 (.slice a3 q c3) q (rowsOf (ks.take q) al) ∧ nb.length ≤ partsAll (ks.take q) ∧ Lay w wr lo p ab aa a3 ab' aa' cb' ca' kk xb xa nb na (d - 1) (ks.take q) al Fs) (fun _ i _ => m - (intOf i).toNat)
  case atStart => exact ⟨0, _, 0, [], ab, aa, cb, ca, k, [], [], _, Nat.zero_le _, rfl, rfl, Own.made w 30 41 0 #[] rfl (by decide), Nat.zero_le _, Hst.out⟩
  case round =>
    obtain ⟨q, a3, c3, al, ab', aa', cb', ca', kk, nb, na, Fs, hq, rfl, rfl, hown, hnb, hlay⟩ := hrel
    clear Hst
    obtain ⟨kt, hkt⟩ : ∃ kt, kt = ks.take q := ⟨_, rfl⟩
    rw [← hkt] at hown hnb hlay
    have Hkt := Lib.hid hkt
    have Hown := Lib.hid hown
    have Hnb := Lib.hid hnb
    have Hlay := Lib.hid hlay
    clear hkt hown hnb hlay
    by_cases hlt : q < m
    · have hd : ∃ e, d = e + 1 := by
        cases d with
        | zero => exfalso; have h0 : ks = [] := Hk.out; have := Hm.out; rw [h0] at this; simp at this; omega
        | succ e => exact ⟨e, rfl⟩
      obtain ⟨d', hd⟩ := hd
      have ihe := Ih.out d' hd
      have hkn := kidsIn_kept Hl.out Hk.out Hlay.out.upd
      rw [hd] at hkn
      have hqk : q < ks.length := by rw [Hm.out]; exact hlt
      obtain ⟨g, off, a', c', rfl, hF, hr, hni⟩ := hkn.at (i := q) hqk
      obtain ⟨x, hx⟩ : ∃ x, x = ks[q]'hqk := ⟨_, rfl⟩
      rw [← hx] at hr hni
      have hpt := partsAll_take ks q hqk
      have hpl := partsAll_get (ks := ks) hqk
      rw [← hx, ← Hkt.out] at hpt
      rw [← hx] at hpl
      have hpx := parts_eq x
      have hpq : partsAll (ks.take (q + 1)) ≤ partsAll ks := by
        have := partsAll_append (ks.take (q + 1)) (ks.drop (q + 1))
        rw [List.take_append_drop] at this
        omega
      have hkk : kk = k + nb.length := by have h1 := Hlay.out.log.len; have h2 := Hl.out.len; simp at h1; omega
      have Hr := Lib.hid (And.intro hr hni)
      have Hx := Lib.hid hx
      have Hpx := Lib.hid (show (1 + partsAll x.kids) + partsAll kt ≤ partsAll (ks.take (q + 1)) by omega)
      have H1 := Lib.hid (show partsAll x.kids ≤ 1000000 by have := Hp1.out; omega)
      have H2 := Lib.hid (show kk + partsAll x.kids ≤ 2000000 by have := Hp2.out; have := Hnb.out; omega)
      have Ihe := Lib.hid ihe
      have Hd := Lib.hid (show d - 1 = d' by omega)
      have hvwf := Lib.hid (row_len (a := a') (c := c') hni.vwf)
      have hx32 := Lib.hid hni.vwf.1
      have i1 : (0 : Int) ≤ (q : Int) := by omega
      have i2 : (q : Int) < (m : Int) := by omega
      clear hr hni hx hkn ihe hd hpt hpl hpx hpq hkk
      go_wp2_with (refine wpList_load_midg (by rfl) 30 (.tmp 21) rfl g (off + q * 41) rfl (x.row a' c') _ Hr.out.1 Try.underlying30 rfl (by rw [hvwf.out]; kernel_rfl) ?_)
      refine (lay_kid d' Ihe.out wr lo p ab' aa' cb' ca' kk (xb ++ nb) (xa ++ na) Hlay.out.log x a' c' Hr.out.2 H1.out H2.out).mono ?_
      rintro e w5 ⟨ax, cx, rfl, hld⟩
      have hlay5 := Hlay.out
      rw [Hd.out] at hlay5
      obtain ⟨ab5, aa5, cb5, ca5, k5, nb5, na5, Fs5, hnb5, hlay5⟩ := hlay5.kid (by omega) Hr.out.2.vwf Hr.out.2.mwf Hr.out.2.nsz Hr.out.2.ksz cx hld
      have hu5 : Upd (LogS p ab' aa') wr w5 := by
        obtain ⟨_, _, _, _, _, _, _, _, _, _, _, _, hu⟩ := hld
        exact hu
      have hown5 := Lib.hid (Hown.out.kept hu5 (fun b hb => fun hS => Hlay.out.log.notnode hS (NodeBlk.own Hown.out (by rw [← own_ob a3 q c3]; exact hb))))
      have Hlay5 := Lib.hid hlay5
      have Hnb5 := Lib.hid hnb5
      clear hld hlay5 hnb5 hu5
      go_wp2_with (first | (refine wpList_buildSlice_eq (by rfl) 28 1 #[(0, .tmp 23)] rfl #[(0, .agg (x.row ax cx).toArray)] (by kernel_rfl) _ (build_node x ax cx hx32.out _) ?_) | (at_builtin; refine wpList_append_any rfl _ _ 28 rfl 30 i0 _ 41 128 Try.underlying28 hi hz0 hz1 hz2 rfl (by decide) (.slice a3 q c3) q (rowsOf kt al) (.slice (some ⟨w5.heap.size, 0, none⟩) 1 1) 1 (x.row ax cx) rfl rfl (hown5.out.kept ((Upd.refl (fun _ => False) w5).alloc _) (fun _ _ => id)) (Sl.made _ _ _ _ _ _ _ _ (List.toList_toArray ..) (by rw [row_len (show x.v.wf from Hr.out.2.vwf)]) (by omega)) (nrow_one _ _ _ _ _ _) (by omega) (by omega) ?_))
      intro a7 c7 w7 hown7 hgr7 hb7
      have Hlay7 := Lib.hid (Hlay5.out.grow (v' := a7) (by rw [← own_ob a3 q c3]; exact hgr7) (fun b h1 h2 => by
        have := hb7 b (by rw [own_ob a3 q c3]; exact h1) (by rw [own_ob]; exact h2)
        simpa using this) (fun b hb => NodeBlk.own hown7 hb))
      rw [← rowsOf_append kt al x ax cx Hlay.out.nl] at hown7
      have Hown7 := Lib.hid hown7
      clear hown7 hgr7 hb7
      go_wp2
      go_roundw
      case rel =>
        have et : ks.take (q + 1) = kt ++ [x] := by
          rw [List.take_succ_eq_append_getElem (by rw [Hm.out]; exact hlt), ← Hkt.out, ← Hx.out]
        refine ⟨q + 1, a7, c7, al ++ [(ax, cx)], ab5, aa5, cb5, ca5, k5, nb5, na5, Fs5, hlt, by go_num, rfl, by rw [et]; exact Hown7.out, by have h1 := Hnb5.out; have h2 := Hnb.out; have h3 := Hpx.out; omega, by rw [et, Hd.out]; exact Hlay7.out⟩
      case measure => simp [intOf]; omega
    · obtain rfl : q = m := by omega
      clear hlt
      have hke : kt = ks := by rw [Hkt.out]; exact List.take_of_length_le (by rw [Hm.out]; exact Nat.le_refl _)
      subst hke
      have hnlk := Hlay.out.nl
      have Hwf := Lib.hid Hlay.out.wfs
      have Hnl := Lib.hid hnlk
      clear hnlk Hkt
      go_wp2_with fail
      go_loopw [7, 9] (fun v i wq => ∃ (j s : Nat) (a4 : Option Addr) (c4 : Nat), j ≤ room ∧ i = .int .i64 j ∧ v = .slice a4 s c4 ∧ s = q + j ∧ Own wq 30 41 (.slice a4 s c4) s (rowsOf (kt ++ spares j) (al ++ List.replicate j (none, 0))) ∧ Lay w wq lo p ab aa a4 ab' aa' cb' ca' kk xb xa nb na (d - 1) kt al Fs) (fun _ i _ => room - (intOf i).toNat)
      case atStart => exact ⟨0, q, a3, c3, Nat.zero_le _, rfl, rfl, rfl, by simpa [spares] using Hown.out, Hlay.out⟩
      case round =>
        rename World => wq
        obtain ⟨j, s, a4, c4, hj, rfl, rfl, hs, hown4, hlay4⟩ := hrel
        have Hown4 := Lib.hid hown4
        have Hlay4 := Lib.hid hlay4
        have Hs := Lib.hid hs
        have hsb : s ≤ 1000040 := by omega
        have hqs : q ≤ s := by omega
        clear hown4 hlay4 hs Hown Hlay
        by_cases hlt : j < room
        · go_wp2_with fail
          refine (word_any wq j (by omega)).mono ?_
          rintro e w' ⟨rfl, hw⟩
          obtain rfl := hw.symm
          obtain ⟨x, hx⟩ : ∃ x, x = plainNd (wordOf j) := ⟨_, rfl⟩
          obtain ⟨C, hC⟩ : ∃ C, C = (x.row none 0).toArray := ⟨_, rfl⟩
          have Hb1 := Lib.hid (show ∀ w, (Instr.build 30 #[(0, .string (wordOf j))]).run Try.prog w = .ok (.agg C) w from fun w => by rw [hC, hx]; exact build_plain _ w)
          have Hb2 := Lib.hid (show ∀ w : World, (Instr.buildSlice 28 1 #[(0, .agg C)]).run Try.prog w = .ok (.slice (some ⟨w.heap.size, 0, none⟩) 1 1) (w.alloc (.cells C 30)) from fun w => by rw [hC, hx]; exact build_node _ none 0 rfl w)
          have HC := Lib.hid (show C.toList = x.row none 0 by rw [hC])
          have hxw : x.v.wf := by rw [hx]; exact plainNd_wf _
          have Hxl := Lib.hid (row_len (a := none) (c := 0) hxw)
          have Hone := Lib.hid (nrow_one x.name x.v x.m none x.kids.length 0)
          have es : spares (j + 1) = spares j ++ [x] := by rw [spares_succ, hx]
          have Hes := Lib.hid es
          obtain ⟨wj, hwj⟩ : ∃ wj, wj = wordOf j := ⟨_, rfl⟩
          rw [← hwj] at Hb1
          rw [← hwj]
          obtain ⟨L, hL⟩ : ∃ L, L = rowsOf (kt ++ spares j) (al ++ List.replicate j (none, 0)) := ⟨_, rfl⟩
          rw [← hL] at Hown4
          have HL := Lib.hid hL
          clear hC hx es hwj hL
          go_wp2_with (first | (refine wpList_build_eq (by rfl) 30 #[(0, .tmp 33)] rfl #[(0, .string wj)] (by kernel_rfl) (.agg C) (Hb1.out _) ?_) | (refine wpList_buildSlice_eq (by rfl) 28 1 #[(0, .tmp 34)] rfl #[(0, .agg C)] (by kernel_rfl) _ (Hb2.out _) ?_) | (at_builtin; refine wpList_append_any rfl _ _ 28 rfl 30 i0 _ 41 128 Try.underlying28 hi hz0 hz1 hz2 rfl (by decide) (.slice a4 s c4) s L (.slice (some ⟨wq.heap.size, 0, none⟩) 1 1) 1 (x.row none 0) rfl rfl (Hown4.out.kept ((Upd.refl (fun _ => False) wq).alloc _) (fun _ _ => id)) (Sl.made _ _ _ _ _ _ _ _ HC.out (by rw [Hxl.out]) (by omega)) Hone.out (by omega) (by omega) ?_))
          intro a7 c7 w7 hown7 hgr7 hb7
          have Hlay7 := Lib.hid (Hlay4.out.grow (v' := a7) (by rw [← own_ob a4 s c4]; exact hgr7) (fun b h1 h2 => by
            have := hb7 b (by rw [own_ob a4 s c4]; exact h1) (by rw [own_ob]; exact h2)
            simpa using this) (fun b hb => NodeBlk.own hown7 hb))
          rw [HL.out, ← rowsOf_append (kt ++ spares j) (al ++ List.replicate j (none, 0)) x none 0 (by simp [Hnl.out, spares_length]), List.append_assoc, List.append_assoc, ← Hes.out, ← List.replicate_succ'] at hown7
          have Hown7 := Lib.hid hown7
          clear hown7 hgr7 hb7
          go_wp2
          go_roundw
          case rel => exact ⟨j + 1, s + 1, a7, c7, hlt, by go_num, rfl, by have := Hs.out; omega, Hown7.out, Hlay7.out⟩
          case measure => simp [intOf]; omega
        · obtain rfl : j = room := by omega
          clear hlt
          have hcap : s ≤ c4 := Own.cap_le Hown4.out
          have hkk : kk = k + nb.length := by have h1 := Hlay4.out.log.len; have h2 := Hl.out.len; simp at h1; omega
          have hkb : kk ≤ 4000000 := by have := Hnb.out; have := Hp1.out; have := Hp2.out; omega
          have hlog := Hlay4.out.log
          obtain ⟨yb, hyb⟩ : ∃ yb, yb = xb ++ nb := ⟨_, rfl⟩
          obtain ⟨ya, hya⟩ : ∃ ya, ya = xa ++ na := ⟨_, rfl⟩
          rw [← hyb, ← hya] at hlog
          have Hyb := Lib.hid hyb
          have Hya := Lib.hid hya
          have hap : (Value.slice ab' kk cb').ownBlock ≠ some p := hlog.b.apart hlog.room (by decide)
          have haq : (Value.slice aa' kk ca').ownBlock ≠ some p := hlog.a.apart hlog.room (by decide)
          have hba := hlog.b.parted hlog.a (by decide)
          have Hap := Lib.hid hap
          have Haq := Lib.hid haq
          have Hba := Lib.hid hba
          have Hlog := Lib.hid hlog
          have hpl : p < wq.heap.size := lt_heap hlog.room
          have f0 := cell_of_row wq p 22 _ _ _ hlog.room
          simp at f0
          have z0 := frozen_of_row wq p 22 _ _ hlog.room
          clear hlog hyb hya hap haq hba hkk
          go_wp2_with (at_builtin; refine wpList_append_any rfl _ _ 45 rfl 28 i1 (.slice none 0 0) 1 24 Try.underlying45 hi1 hy0 hy1 hy2 rfl (by decide) (.slice ab' kk cb') kk yb (.slice (some ⟨wq.heap.size, 0, none⟩) 1 1) 1 [.slice a4 s c4] rfl rfl (Hlog.out.b.kept ((Upd.refl (fun _ => False) wq).alloc _) (fun _ _ => id)) (Sl.made _ _ _ _ _ _ _ _ rfl rfl (by omega)) (by simp [Value.oneCell']) (by omega) (by omega) ?_)
          intro abz cbz w5 hown5 hgr5 hb5
          have hu5 : Upd (fun g => (Value.slice ab' kk cb').ownBlock = some g) wq w5 := Upd.grown ((Upd.refl _ wq).alloc _) hgr5 (fun g hg _ => hg)
          have hr5 := hu5.at_ Hlog.out.room Hap.out
          have f0 := cell_of_row w5 p 22 _ _ _ hr5
          simp at f0
          have z0 := frozen_of_row w5 p 22 _ _ hr5
          have f1 := cell_of_row w5 p 23 _ _ _ hr5
          simp at f1
          have z1 := frozen_of_row w5 p 23 _ _ hr5
          have Ha5 := Lib.hid (Hlog.out.a.kept hu5 (fun g hg h => Hba.out g h hg))
          have Hown5 := Lib.hid hown5
          have Hr5 := Lib.hid hr5
          have Hu5 := Lib.hid hu5
          have Hb5 := Lib.hid (show ∀ g, (Value.slice abz (kk + 1) cbz).ownBlock = some g → (Value.slice ab' kk cb').ownBlock = some g ∨ wq.heap.size ≤ g from fun g hg => by
            by_cases h : (Value.slice ab' kk cb').ownBlock = some g
            · exact .inl h
            · have h1 := hb5 g h hg
              exact .inr (by (try simp at h1); omega))
          have hsz5 : wq.heap.size ≤ w5.heap.size := hu5.size
          clear hown5 hgr5 hb5 hu5 hr5
          go_wp2_with (at_builtin; refine wpList_append_any rfl _ _ 34 rfl 3 i2 (.int .i64 0) 1 8 Try.underlying34 hi2 hx0 hx1 hx2 rfl (by decide) (.slice aa' kk ca') kk ya (.slice (some ⟨w5.heap.size, 0, none⟩) 1 1) 1 [.int .i64 (q : Nat)] rfl rfl ((Ha5.out.kept (((Upd.refl (fun g => g = p) w5).setCell ⟨p, 22, none⟩ _ (fun _ => rfl)).alloc _) (fun g hg h => Haq.out (by rw [hg, h])))) (Sl.made_at _ _ (by simp [World.setCell]) _ _ _ _ _ _ rfl rfl (by omega)) (by simp [Value.oneCell']) (by omega) (by omega) ?_)
          intro aaz caz w6 hown6 hgr6 hb6
          have hu6 : Upd (fun g => g = p ∨ (Value.slice aa' kk ca').ownBlock = some g) w5 w6 := Upd.grown (((Upd.refl _ w5).setCell ⟨p, 22, none⟩ (.slice abz (kk + 1) cbz) (fun _ => .inl rfl)).alloc _) hgr6 (fun g hg _ => .inr hg)
          have h0 := heap_setCell_same w5 p 22 _ _ (.slice abz (kk + 1) cbz) Hr5.out
          simp at h0
          have hp5 := lt_heap Hr5.out
          have hr6 := (hgr6.block p (by simp [World.setCell]; omega) (fun e => Haq.out e.symm)).trans ((Below.heap_alloc _ _ p (by simpa [World.setCell] using hp5)).trans h0)
          have hvp : (Value.slice abz (kk + 1) cbz).ownBlock ≠ some p := Hown5.out.apart Hr5.out (by decide)
          have hva := Hown5.out.parted Ha5.out (by decide)
          have Hvb6 := Lib.hid (Hown5.out.kept hu6 (fun g hg h => by rcases h with rfl | h; exact hvp hg; exact hva g hg h))
          have hap6 : (Value.slice aaz (kk + 1) caz).ownBlock ≠ some p := hown6.apart hr6 (by decide)
          have f1 := cell_of_row w6 p 23 _ _ _ hr6
          simp at f1
          have z1 := frozen_of_row w6 p 23 _ _ hr6
          have Hr6 := Lib.hid hr6
          have Hu6 := Lib.hid hu6
          have Hown6 := Lib.hid hown6
          have Hvp := Lib.hid hvp
          have Hap6 := Lib.hid hap6
          have Haa6 := Lib.hid (show ∀ g, (Value.slice aaz (kk + 1) caz).ownBlock = some g → (Value.slice aa' kk ca').ownBlock = some g ∨ wq.heap.size ≤ g from fun g hg => by
            by_cases h : (Value.slice aa' kk ca').ownBlock = some g
            · exact .inl h
            · have h1 := hb6 g h hg
              exact .inr (by (try simp at h1); omega))
          have i1 : (q : Int) ≤ (s : Int) := by omega
          have i2 : (s : Int) ≤ (c4 : Int) := by omega
          have i3 : (0 : Int) ≤ (q : Int) := by omega
          have i4 : (q : Int) ≤ (c4 : Int) := by omega
          clear h0 hr6 hu6 hown6 hvp hva hap6 hgr6 hb6 f0 z0 hp5
          go_wp2
          go_ret
          have hs6 := heap_setCell_same w6 p 23 _ _ (.slice aaz (kk + 1) caz) Hr6.out
          simp at hs6
          have hu7 : Upd (fun g => g = p) w6 (w6.setCell ⟨p, 23, none⟩ (.slice aaz (kk + 1) caz)) := (Upd.refl _ _).setCell _ _ (fun _ => rfl)
          have hfin : Upd (LogS p ab' aa') wq (w6.setCell ⟨p, 23, none⟩ (.slice aaz (kk + 1) caz)) := by
            refine Upd.trans ?_ (hu7.mono fun i _ h => .inl h)
            refine Upd.trans ?_ (Hu6.out.mono fun i _ h => h.elim .inl (fun h => .inr (.inr (by rw [← own_ob aa' kk ca']; exact h))))
            exact Hu5.out.mono fun i _ h => .inr (.inl (by rw [← own_ob ab' kk cb']; exact h))
          have hnew : ∀ b, LogS p abz aaz b → LogS p ab' aa' b ∨ wq.heap.size ≤ b := by
            rintro b (rfl | h | h)
            · exact .inl (.inl rfl)
            · rcases Hb5.out b (by rw [own_ob]; exact h) with h | h
              · exact .inl (.inr (.inl (by rw [← own_ob ab' kk cb']; exact h)))
              · exact .inr h
            · rcases Haa6.out b (by rw [own_ob]; exact h) with h | h
              · exact .inl (.inr (.inr (by rw [← own_ob aa' kk ca']; exact h)))
              · exact .inr h
          have hwsq := Hlay4.out.upd.size
          have hlow : lo ≤ w.heap.size := Nat.le_of_lt (Nat.lt_of_le_of_lt (Hl.out.lo p (.inl rfl)) (Hl.out.lt (.inl rfl)))
          have hlog' : LogN (w6.setCell ⟨p, 23, none⟩ (.slice aaz (kk + 1) caz)) lo p abz aaz cbz caz (kk + 1) (yb ++ [.slice a4 s c4]) (ya ++ [.int .i64 (q : Nat)]) :=
            ⟨hs6, Hvb6.out.kept hu7 (fun g hg h => Hvp.out (h ▸ hg)), Hown6.out.kept hu7 (fun g hg h => Hap6.out (h ▸ hg)), fun g hg => by
              rcases hnew g hg with h | h
              · exact Hlog.out.lo g h
              · omega⟩
          obtain rfl := Hs.out
          rw [Hyb.out, Hya.out] at hlog'
          refine ⟨a4, rfl, Hlay4.out.done (by intro e; subst e; exact Hk.out) Hm.out hr1 hr2 hme Hown4.out hfin hlog' (fun b hb => ?_) Hnb.out⟩
          rcases hnew b hb with h | h
          · exact .inl h
          · exact .inr (by omega)
theorem lay_ok : ∀ d : Nat, LayOk d
  | 0 => lay_step 0 (fun e he => by omega)
  | d + 1 => lay_step (d + 1) (fun e he => (Nat.succ.inj he) ▸ lay_ok d)
end Go.Proofs.Ythnbinlllmkabaa
