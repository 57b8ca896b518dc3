/- The reference's Find. -/
import Derived.Test.YtefobboakikpbaaFind3
namespace Go.Proofs.Ytefobboakikpbaa
open Go.RowKit Go.Shelf
set_option linter.unusedVariables false
set_option linter.unusedSimpArgs false

theorem info_found : (Try.prog.info? 35).map (fun i => (i.zero, i.size, i.bytes)) = some (some (.agg #[.int .i64 0, .int .i64 0]), 2, 16) := by kernel_rfl
/-- A piece, cut out: the slice, whatever the world. -/
theorem cut_at (w : World) (a : Option Addr) (n c : Nat) (l : List UInt8) (hs : Sl w 1 (.slice a n c) n (bytes l)) (hc : n ≤ c) (p : Nat) (hp : p + 512 ≤ n) :
    ∃ a' c', (∀ w (li ki : Int), li = p → ki = p + 512 → (Instr.sliceAt 22 (.slice a n c) (some (.int .i64 li)) (some (.int .i64 ki)) none).run Try.prog w = .ok (.slice a' 512 c') w) ∧
      Sl w 1 (.slice a' 512 c') 512 (bytes ((l.drop p).take 512)) ∧ 512 ≤ c' ∧ (∀ g, (Value.slice a' 512 c').ownBlock = some g → (Value.slice a n c).ownBlock = some g) := by
  have hsz : ∀ w, (sizeOf (Try.prog.elem 22)).run Try.prog w = .ok 1 w := fun _ => by kernel_rfl
  obtain ⟨a', hcut, _, _, hs', hob⟩ := hs.cut Try.underlying22 hsz p (p + 512) (by omega) hp hc
  have e1 : p + 512 - p = 512 := by omega
  have e2 : (((bytes l).drop (p * 1)).take (512 * 1)) = bytes ((l.drop p).take 512) := by simp [bytes, List.map_drop, List.map_take]
  rw [e1] at hs' hcut hob
  rw [e2] at hs'
  exact ⟨a', c - p, fun w li ki h1 h2 => hcut w li ki h1 (by rw [h2]; omega), hs', by omega, hob⟩
theorem wrap_in (x : Int) (h0 : -9223372036854775808 ≤ x) (h1 : x ≤ 9223372036854775807) : IntKind.i64.wrap x = x := IntWalk.i64_in _ (by omega)

set_option maxHeartbeats 2000000 in
set_option maxRecDepth 100000 in
theorem refFind_any (w : World) (a b : Option Addr) (c d n m : Nat) (old l : List UInt8) (hk : Sl w 1 (.slice a n c) n (bytes old)) (hl : Sl w 1 (.slice b m d) m (bytes l)) (hn : old.length = n) (hm : l.length = m) (hn2 : n ≤ 20000) (hm2 : m ≤ 20000) (hc : n ≤ c) (hd : m ≤ d) :
    Calls Try.prog 10 #[.slice a n c, .slice b m d] w fun e w' => ∃ a' c', e = .returned (.slice a' (finds old l 0).length c') ∧ Own w' 35 2 (.slice a' (finds old l 0).length c') (finds old l 0).length (fcells (finds old l 0)) ∧ Below w.heap.size w w' ∧
      (∀ k, (Value.slice a' (finds old l 0).length c').ownBlock = some k → w.heap.size ≤ k) := by
  obtain ⟨i0, hi, hz0, hz1, hz2⟩ := info_parts info_found
  obtain ⟨F, hF⟩ : ∃ F, F = finds old l 0 := ⟨_, rfl⟩
  have hFl := finds_length old l 0
  rw [hm] at hFl
  obtain ⟨M, hM⟩ : ∃ M, M = old.length / 512 := ⟨_, rfl⟩
  have hM1 : 512 * M ≤ n := by omega
  have hM2 : n < 512 * M + 512 := by omega
  rw [← hF] at hFl ⊢
  have Hk := Lib.hid hk
  have Hl := Lib.hid hl
  have Hn := Lib.hid hn
  have Hm := Lib.hid hm
  have HF := Lib.hid hF
  have HFl := Lib.hid hFl
  have HM := Lib.hid hM
  clear hk hl hn hm hF hFl hM
  go_enter Try.func10, Try.ntmps10
  go_wp2_with fail
  go_loopw [5, 6] (fun v i wr => ∃ (p : Nat) (L : List (Nat × Nat)) (a5 : Option Addr) (c5 : Nat), p ≤ m ∧ i = .int .i64 p ∧ v = .slice a5 L.length c5 ∧ Own wr 35 2 (.slice a5 L.length c5) L.length (fcells L) ∧ L ++ finds old l p = F ∧ Below w.heap.size w wr ∧ (∀ k, (Value.slice a5 L.length c5).ownBlock = some k → w.heap.size ≤ k))
    (fun _ i _ => m - (intOf i).toNat)
  case atStart => exact ⟨0, [], none, 0, Nat.zero_le _, rfl, rfl, Own.nil _ _ _, by rw [HF.out]; rfl, Below.refl _ _, fun k hk => by simp [Value.ownBlock] at hk⟩
  case round =>
    obtain ⟨p, L, a5, c5, hp, rfl, rfl, hown, hL, hbe, hnew⟩ := hrel
    have Hown := Lib.hid hown
    have HL := Lib.hid hL
    have Hbe := Lib.hid hbe
    have Hnew := Lib.hid hnew
    clear hown hL hbe hnew
    by_cases hlt : p + 512 ≤ m
    · obtain ⟨ab, cb, hcb, hsb, _, _⟩ := cut_at wr b m d l (Hl.out.below Hbe.out) hd p hlt
      have q1 := fun w => hcb w (p : Int) ((p : Int) + 512) rfl (by omega)
      have Hsb := Lib.hid hsb
      have HLl : L.length ≤ 41 := by
        have h1 := HFl.out
        rw [← HL.out, List.length_append] at h1
        omega
      clear hcb hsb
      go_wp2_with fail
      go_loopw [7] (fun kv wq => ∃ k : Nat, k ≤ M ∧ kv = .int .i64 k ∧ (∀ j, j < k → pieceAt old j ≠ winAt l p) ∧ ∃ nn, wq = wr.drewN nn) (fun kv _ => M - (intOf kv).toNat)
      case atStart => exact ⟨0, Nat.zero_le _, rfl, fun j hj => absurd hj (Nat.not_lt_zero j), 0, rfl⟩
      case round =>
        rename World => wq
        obtain ⟨k, hkM, rfl, hno, nn, hnn⟩ := hrel
        have Hno := Lib.hid hno
        have Hnn := Lib.hid hnn
        have huq : Upd (fun _ => False) wr wq := by rw [hnn]; exact (Upd.refl _ _).drewN nn
        have Huq := Lib.hid huq
        clear hno hnn huq
        by_cases hkl : k < M
        · obtain ⟨ak, ck, hck, hsk, _, _⟩ := cut_at wr a n c old (Hk.out.below Hbe.out) hc (512 * k) (by omega)
          have q2 := fun w => hck w ((k : Int) * 512) (((k : Int) + 1) * 512) (by omega) (by omega)
          obtain ⟨dd, hdd⟩ : ∃ dd, dd = decide (pieceAt old k = winAt l p) := ⟨_, rfl⟩
          have Hsame : Hid (∀ q, Calls Try.prog 15 #[.slice ak 512 ck, .slice ab 512 cb] (wq.drewN q) fun e w' => e = .returned (.bool (decide (pieceAt old k = winAt l p))) ∧ ∃ j, w' = wq.drewN j) := fun q => (refSame_any (wq.drewN q) ak ab ck cb 512 (pieceAt old k) (winAt l p) ((hsk.kept Huq.out (fun _ _ _ => id)).kept ((Upd.refl (fun _ => False) wq).drewN q) (fun _ _ _ => id)) ((Hsb.out.kept Huq.out (fun _ _ _ => id)).kept ((Upd.refl (fun _ => False) wq).drewN q) (fun _ _ _ => id)) (pieceAt_length old k (by rw [Hn.out]; omega)) (winAt_length l p (by rw [Hm.out]; omega))).mono fun _ _ ⟨he, j, hw⟩ => ⟨he, q + j, by rw [hw, World.drewN_drewN]⟩
          rw [← hdd] at Hsame
          have Hdd := Lib.hid hdd
          have w1 := wrap_in ((k : Int) + 1) (by omega) (by omega)
          have w2 := wrap_in (((k : Int) + 1) * 512) (by omega) (by omega)
          have w3 := wrap_in ((k : Int) * 512) (by omega) (by omega)
          have w4 := wrap_in ((p : Int) + 512) (by omega) (by omega)
          have d1 : decide (((k : Int) + 1) * 512 ≤ (n : Int)) = true := decide_eq_true (by omega)
          have d2 : ((k : Int) + 1) * 512 ≤ (n : Int) := by omega
          clear hck hsk hdd
          go_wp2_with fail
          go_quiet ((go_at_call 15; exact Hsame.out _))
          generalize hwz : wq.drewN nq = wz
          have Hnn2 := Lib.hid (show wz = wr.drewN (nn + nq) by rw [← hwz, Hnn.out, World.drewN_drewN])
          clear hwz
          cases dd with
          | false =>
            go_wp2
            go_roundw
            case rel => exact ⟨k + 1, hkl, by go_num, fun j hj => by
              rcases Nat.lt_or_ge j k with h | h
              · exact Hno.out j h
              · obtain rfl : j = k := by omega
                exact of_decide_eq_false Hdd.out.symm, nn + nq, Hnn2.out⟩
            case measure => simp [intOf]; omega
          | true =>
            have Hhit := Lib.hid (finds_hit (old := old) (b := l) (i := p) (by rw [Hm.out]; omega) (hit_some (by rw [← HM.out]; exact hkl) (of_decide_eq_true Hdd.out.symm) Hno.out))
            have Hown := Lib.hid (Hown.out.kept (show Upd (fun _ => False) wr wz by rw [Hnn2.out]; exact (Upd.refl _ _).drewN _) (fun _ _ => id))
            have Hbe := Lib.hid (show Below w.heap.size w wz by rw [Hnn2.out]; exact Hbe.out.upd (Nat.le_refl _) ((Upd.refl (fun _ => False) _).drewN _) (fun _ h => h.elim))
            have hszz := Hbe.out.size
            clear q1 q2 w1 w2 w3 w4 d1
            go_wp2_with (at_builtin; refine wpList_append_any rfl _ _ 31 rfl 35 i0 (.agg #[.int .i64 0, .int .i64 0]) 2 16 Try.underlying31 hi hz0 hz1 hz2 rfl (by decide) (.slice a5 L.length c5) L.length (fcells L) (.slice (some ⟨wz.heap.size, 0, none⟩) 1 1) 1 (fcells [(p, k)]) rfl rfl (Hown.out.kept ((Upd.refl (fun _ => False) wz).alloc _) (fun _ _ => id)) (Sl.made wz 35 2 1 1 _ _ _ rfl rfl (by omega)) (fcells_one _) (by omega) (by omega) ?_)
            intro a10 c10 w10 hg10 hgr10 hb10
            have hb10' : ∀ g, (Value.slice a10 (L.length + 1) c10).ownBlock = some g → w.heap.size ≤ g := by
              intro g hg
              by_cases h : (Value.slice a5 L.length c5).ownBlock = some g
              · exact Hnew.out g h
              · have := hb10 g h hg
                have : wz.heap.size + 1 ≤ g := by simpa using this
                omega
            have Hbe10 := Lib.hid (Hbe.out.upd (Nat.le_refl _) (((Upd.refl (fun b => w.heap.size ≤ b) wz).alloc _).grown hgr10 (fun g hg _ => Hnew.out g hg)) (fun _ h => h))
            have hg10 : Own w10 35 2 (.slice a10 (L ++ [(p, k)]).length c10) (L ++ [(p, k)]).length (fcells (L ++ [(p, k)])) := by
              rw [fcells_append]; simpa using hg10
            have Hg10 := Lib.hid hg10
            have Hb10 := Lib.hid hb10'
            have HL2 := Lib.hid (show (L ++ [(p, k)]) ++ finds old l (p + 512) = F by rw [← HL.out, Hhit.out]; simp)
            have el : L.length + 1 = (L ++ [(p, k)]).length := by simp
            clear hg10 hb10' hgr10 hb10
            rw [el]
            rw [el] at Hb10
            go_wp2
            go_roundw
            case rel => exact ⟨p + 512, L ++ [(p, k)], a10, c10, hlt, by go_num, rfl, Hg10.out, HL2.out, Hbe10.out, Hb10.out⟩
            case measure => simp [intOf]; omega
        · obtain rfl : k = M := by omega
          have w1 := wrap_in ((k : Int) + 1) (by omega) (by omega)
          have w2 := wrap_in (((k : Int) + 1) * 512) (by omega) (by omega)
          have d1 : decide (((k : Int) + 1) * 512 ≤ (n : Int)) = false := decide_eq_false (by omega)
          have d2 : ¬ ((k : Int) + 1) * 512 ≤ (n : Int) := by omega
          go_wp2_with fail
          go_quiet (fail)
          generalize hwz : wq.drewN nq = wz
          have Hnn2 := Lib.hid (show wz = wr.drewN (nn + nq) by rw [← hwz, Hnn.out, World.drewN_drewN])
          have Hmiss := Lib.hid (finds_miss (old := old) (b := l) (i := p) (by rw [Hm.out]; omega) (hit_none (by rw [← HM.out]; exact Hno.out)))
          have Hown := Lib.hid (Hown.out.kept (show Upd (fun _ => False) wr wz by rw [Hnn2.out]; exact (Upd.refl _ _).drewN _) (fun _ _ => id))
          have Hbe := Lib.hid (show Below w.heap.size w wz by rw [Hnn2.out]; exact Hbe.out.upd (Nat.le_refl _) ((Upd.refl (fun _ => False) _).drewN _) (fun _ h => h.elim))
          clear hwz
          go_wp2
          go_roundw
          case rel => exact ⟨p + 1, L, a5, c5, by omega, by go_num, rfl, Hown.out, by rw [← HL.out, Hmiss.out], Hbe.out, Hnew.out⟩
          case measure => simp [intOf]; omega
    · have HE := Lib.hid (show L = F by rw [← HL.out, finds_end (by rw [Hm.out]; omega), List.append_nil])
      have hd1 : ¬ ((p : Int) + 512 ≤ (m : Int)) := by omega
      clear HL
      obtain rfl := HE.out
      go_wp2
      go_ret
      exact ⟨_, _, rfl, Hown.out, Hbe.out, Hnew.out⟩
end Go.Proofs.Ytefobboakikpbaa
