/- Paths: their pieces; path.pieces and path.Split. -/
import Derived.Test.YthnbinlllmkabaaSlP
import Derived.Test.YthnbinlllmkabaaTree
import Derived.Test.YthnbinlllmkabaaName
namespace Go.Proofs.Ythnbinlllmkabaa
open Go.RowKit
set_option linter.unusedVariables false
set_option linter.unusedSimpArgs false

/-- The pieces of a text from a place on; no byte between it and the second place is a slash. -/
def cutAt (s : ByteArray) (fr i : Nat) : List ByteArray :=
  if h : i < s.size then (if (s[i]'h).toNat = 47 then s.extract fr i :: cutAt s (i + 1) (i + 1) else cutAt s fr (i + 1)) else [s.extract fr s.size]
termination_by s.size - i
def pieces (s : ByteArray) : List ByteArray := if s.size = 0 then [] else cutAt s 0 0
theorem cutAt_end (s : ByteArray) (fr : Nat) : cutAt s fr s.size = [s.extract fr s.size] := by rw [cutAt, dif_neg (by omega)]
theorem cutAt_hit (s : ByteArray) (fr i : Nat) (h : i < s.size) (h47 : (s[i]'h).toNat = 47) : cutAt s fr i = s.extract fr i :: cutAt s (i + 1) (i + 1) := by rw [cutAt, dif_pos h, if_pos h47]
theorem cutAt_miss (s : ByteArray) (fr i : Nat) (h : i < s.size) (h47 : (s[i]'h).toNat ≠ 47) : cutAt s fr i = cutAt s fr (i + 1) := by rw [cutAt, dif_pos h, if_neg h47]
theorem cutAt_skip (s : ByteArray) (fr i : Nat) : ∀ d, i + d ≤ s.size → (∀ j (h : i + j < s.size), j < d → (s[i + j]'h).toNat ≠ 47) → cutAt s fr i = cutAt s fr (i + d)
  | 0, _, _ => rfl
  | d + 1, h, hp => by
    rw [cutAt_skip s fr i d (by omega) (fun j hj hd => hp j hj (by omega)), cutAt_miss s fr (i + d) (by omega) (hp d (by omega) (by omega))]
    rfl
theorem cutAt_size (s : ByteArray) : ∀ (n fr i : Nat), s.size - i = n → fr ≤ i → i ≤ s.size → (∀ x ∈ cutAt s fr i, x.size ≤ s.size) ∧ (cutAt s fr i).length ≤ n + 1
  | 0, fr, i, hn, hf, hi => by
    obtain rfl : i = s.size := by omega
    rw [cutAt_end]
    simp
  | n + 1, fr, i, hn, hf, hi => by
    have h : i < s.size := by omega
    by_cases h47 : (s[i]'h).toNat = 47
    · rw [cutAt_hit s fr i h h47]
      obtain ⟨h1, h2⟩ := cutAt_size s n (i + 1) (i + 1) (by omega) (by omega) (by omega)
      refine ⟨fun x hx => ?_, by simp; omega⟩
      rcases List.mem_cons.1 hx with rfl | hx
      · simp; omega
      · exact h1 x hx
    · rw [cutAt_miss s fr i h h47]
      obtain ⟨h1, h2⟩ := cutAt_size s n fr (i + 1) (by omega) (by omega) (by omega)
      exact ⟨h1, by omega⟩
theorem pieces_size (s : ByteArray) : (∀ x ∈ pieces s, x.size ≤ s.size) ∧ (pieces s).length ≤ s.size + 1 := by
  unfold pieces
  split
  · simp
  · exact cutAt_size s s.size 0 0 (by omega) (by omega) (by omega)
theorem strs_append (a b : List ByteArray) : strs (a ++ b) = strs a ++ strs b := by simp [strs]
theorem strs_one (l : List ByteArray) : ∀ u ∈ strs l, u.oneCell' = true := by
  intro u hu
  simp only [strs, List.mem_map] at hu
  obtain ⟨x, _, rfl⟩ := hu
  rfl
theorem Own.apartO {w : World} {e : TypeId} {size n p : Nat} {v : Value} {xs : List Value} {o : Obj} (h : Own w e size v n xs) (hp : w.heap[p]? = some o) (hne : ∀ cs t fr, o ≠ .cells cs t fr) : v.ownBlock ≠ some p := by
  rcases h.2.2 with ⟨rfl, _⟩ | ⟨g, off, cap, cur, rfl, hg, _⟩
  · simp [Value.ownBlock]
  · intro hk
    have : g = p := by simpa [Value.ownBlock] using hk
    subst this
    rw [hg] at hp
    injection hp with hp
    exact hne _ _ _ hp.symm
theorem upd_iterAt (w : World) (k : Nat) (s : ByteArray) (pos : Nat) : Upd (fun b => b = k) w (w.iterAt k s pos) :=
  ⟨rfl, rfl, rfl, by rw [Lib.iterAt_size]; exact Nat.le_refl _, fun i _ hi => Lib.iterAt_other w k i s pos hi⟩
theorem info_text : (Try.prog.info? 9).map (fun i => (i.zero, i.size, i.bytes)) = some (some (.string ⟨#[]⟩), 1, 16) := by kernel_rfl
set_option maxHeartbeats 2000000 in
set_option maxRecDepth 100000 in
theorem pieces_any (w : World) (s : ByteArray) (hs : s.size ≤ 1000000000) :
    Calls Try.prog 99 #[.string s] w fun e w' => ∃ (n : Nat) (a : Option Addr) (c : Nat), e = .returned (.slice a n c) ∧ (pieces s).length = n ∧ Own w' 9 1 (.slice a n c) n (strs (pieces s)) ∧ Below w.heap.size w w' ∧ (∀ b, (Value.slice a n c).ownBlock = some b → w.heap.size ≤ b) := by
  by_cases h0 : s = ⟨#[]⟩
  · subst h0
    have he : pieces (⟨#[]⟩ : ByteArray) = [] := by unfold pieces; rfl
    rw [he]
    clear he
    go_enter Try.func99, Try.ntmps99
    go_wp2
    go_ret
    exact ⟨0, none, 0, rfl, rfl, Own.nil _ _ _, Below.refl _ _, fun b hb => by simp [Value.ownBlock] at hb⟩
  · have hs0 : s.size ≠ 0 := fun e => h0 (by cases s with | mk d => cases d with | mk l => cases l with | nil => rfl | cons x r => simp [ByteArray.size] at e)
    have hpe2 : (s.toList == ([] : List UInt8)) = false := by
      rw [beq_eq_false_iff_ne]
      intro e
      have := toList_len s
      rw [e] at this
      exact hs0 this.symm
    have Hp := Lib.hid (show pieces s = cutAt s 0 0 by unfold pieces; rw [if_neg hs0])
    obtain ⟨i0, hi, hz0, hz1, hz2⟩ := info_parts info_text
    have hst : (w.iter s 0).heap[w.heap.size]? = some (.stringIter s 0) := World.iter_heap w s 0
    have hsb : Below w.heap.size w (w.iter s 0) := (Below.refl _ _).alloc (Nat.le_refl _) _
    have Hst := Lib.hid (And.intro hst hsb)
    clear hst hsb h0 hs0
    go_enter Try.func99, Try.ntmps99
    go_wp2_with fail
    go_loopw [3, 4] (fun l fr wr => ∃ (k m nl : Nat) (L : List ByteArray) (a : Option Addr) (c : Nat), k ≤ s.size ∧ m ≤ k ∧ l = .slice a nl c ∧ fr = .int .i64 m ∧ nl ≤ k ∧ Own wr 9 1 (.slice a nl c) nl (strs L) ∧ L ++ cutAt s m k = pieces s ∧ L.length = nl ∧ wr.heap[w.heap.size]? = some (.stringIter s k) ∧ Below w.heap.size w wr ∧ (∀ b, (Value.slice a nl c).ownBlock = some b → w.heap.size ≤ b)) (fun _ _ wr => s.size - wr.iterPos w.heap.size)
    case atStart => exact ⟨0, 0, 0, [], none, 0, Nat.zero_le _, Nat.le_refl _, rfl, rfl, Nat.le_refl _, Own.nil _ _ _, Hp.out.symm, rfl, Hst.out.1, Hst.out.2, fun b hb => by simp [Value.ownBlock] at hb⟩
    case round =>
      obtain ⟨k, m, nl, L, a, c, hk, hmk, rfl, rfl, hnl, hown, hcut, hL, hit, hb, hfr⟩ := hrel
      have Hown := Lib.hid hown
      have Hcut := Lib.hid hcut
      have HL := Lib.hid hL
      have Hb := Lib.hid hb
      have Hit := Lib.hid hit
      have Hfr := Lib.hid hfr
      clear hown hcut hL hb hfr
      by_cases hlt : k < s.size
      · obtain ⟨hd1, hd2, hd3, hd4⟩ := decode_bytes s k hlt
        obtain ⟨ch, hc⟩ : ∃ c, c = (Utf8.decode s k).1 := ⟨_, rfl⟩
        obtain ⟨wd, hwd⟩ : ∃ wd, wd = (Utf8.decode s k).2 := ⟨_, rfl⟩
        have hnx := fun ty => Lib.run_next_any_at (P := Try.prog) wr w.heap.size s k ty hit hlt
        rw [← hc, ← hwd] at hd1
        rw [← hc, ← hwd] at hd2
        rw [← hwd] at hd3 hd4
        simp only [← hc, ← hwd] at hnx
        have hit2 := Lib.iterAt_heap wr w.heap.size s k (k + wd) hit
        have hb2 := Lib.below_iterAt Hb.out (k := w.heap.size) (Nat.le_refl _) s (k + wd)
        have H2 := Lib.hid (And.intro hit2 hb2)
        by_cases h47 : ch = 47
        · obtain ⟨h1, h2⟩ := hd1 (by omega)
          have Hhit := Lib.hid (cutAt_hit s m k hlt (by omega))
          subst h47 h2
          clear hd1 hd2 hc hwd hit2 hb2 hit h1
          have r1 : (m : Int) ≤ (k : Int) := by omega
          have r2 : (k : Int) ≤ (s.size : Int) := by omega
          have r3 : (0 : Int) ≤ (m : Int) := by omega
          have r4 : (0 : Int) ≤ (k : Int) := by omega
          have hu2 : Upd (fun b => b = w.heap.size) wr (wr.iterAt w.heap.size s (k + 1)) := upd_iterAt _ _ _ _
          have Hu2 := Lib.hid hu2
          have hap := Hown.out.apartO Hit.out (fun _ _ _ e => by cases e)
          have Hap := Lib.hid hap
          clear hu2 hap
          go_wp2_with (at_builtin; refine wpList_append_any rfl _ _ 71 rfl 9 i0 (.string ⟨#[]⟩) 1 16 Try.underlying71 hi hz0 hz1 hz2 rfl (by decide) (.slice a nl c) nl (strs L) (.slice (some ⟨(wr.iterAt w.heap.size s (k + 1)).heap.size, 0, none⟩) 1 1) 1 [.string (s.extract m k)] rfl rfl ((Hown.out.kept Hu2.out (fun b hb e => Hap.out (by rw [← e]; exact hb))).kept ((Upd.refl (fun _ => False) (wr.iterAt w.heap.size s (k + 1))).alloc _) (fun _ _ => id)) (Sl.made _ _ _ _ _ _ _ _ rfl rfl (by omega)) (by simp [Value.oneCell']) (by omega) (by omega) ?_)
          intro a5 c5 w5 hown5 hgr5 hb5
          have hu5 : Upd (fun b => (Value.slice a nl c).ownBlock = some b) (wr.iterAt w.heap.size s (k + 1)) w5 := Upd.grown ((Upd.refl _ _).alloc _) hgr5 (fun b hb _ => hb)
          have Hit5 := Lib.hid (hu5.at_ H2.out.1 (fun e => Hap.out e))
          have hsz2 : wr.heap.size ≤ (wr.iterAt w.heap.size s (k + 1)).heap.size := Hu2.out.size
          have hwr : w.heap.size ≤ wr.heap.size := Hb.out.size
          have Hb5 := Lib.hid (H2.out.2.upd (Nat.le_refl _) hu5 (fun b hb => Hfr.out b hb))
          have Hfr5 : Hid (∀ b, (Value.slice a5 (nl + 1) c5).ownBlock = some b → w.heap.size ≤ b) := fun b hb => by
            by_cases h : (Value.slice a nl c).ownBlock = some b
            · exact Hfr.out b h
            · have h3 := hb5 b h hb
              omega
          have Hown5 := Lib.hid hown5
          clear hown5 hgr5 hb5 hu5 hnx
          go_wp2
          go_roundw
          case rel => exact ⟨k + 1, k + 1, nl + 1, L ++ [s.extract m k], a5, c5, hlt, Nat.le_refl _, rfl, by go_num, by omega, by rw [strs_append]; exact Hown5.out, by rw [List.append_assoc, ← Hcut.out, Hhit.out]; rfl, by rw [List.length_append, HL.out]; rfl, Hit5.out, Hb5.out, Hfr5.out⟩
          case measure =>
            have h1 := Hit5.out
            have h2 := Hit.out
            simp only [World.iterPos, h1, h2]
            omega
        · have e1 : ((ch : Int) == 47) = false := by rw [beq_eq_false_iff_ne]; omega
          have hgb : ∀ j (h : k + j < s.size), s.get! (k + j) = s[k + j]'h := fun j h => get_bang s _ h
          have hskip : cutAt s m k = cutAt s m (k + wd) := by
            refine cutAt_skip s m k wd hd4 (fun j hj hjw => ?_)
            rw [← hgb j hj]
            by_cases hc128 : ch < 128
            · obtain ⟨h1, h2⟩ := hd1 hc128
              obtain rfl : j = 0 := by omega
              rw [hgb 0 hj]
              show ¬ ((s[k]'hlt).toNat = 47)
              omega
            · have h1 := hd2 (by omega) j hjw
              omega
          have Hskip := Lib.hid hskip
          have Hap := Lib.hid (Hown.out.apartO Hit.out (fun _ _ _ e => by cases e))
          clear hd1 hd2 hc hwd hit2 hb2 hit hgb hskip h47
          go_wp2
          go_roundw
          case rel => exact ⟨k + wd, m, nl, L, a, c, hd4, by omega, rfl, rfl, by omega, Hown.out.kept (upd_iterAt _ _ _ _) (fun b hb e => Hap.out (by rw [← e]; exact hb)), by rw [← Hskip.out]; exact Hcut.out, HL.out, H2.out.1, H2.out.2, Hfr.out⟩
          case measure =>
            have h1 := H2.out.1
            have h2 := Hit.out
            simp only [World.iterPos, h1, h2]
            omega
      · obtain rfl : k = s.size := by omega
        have hnx := fun ty => Lib.run_next_end_at (P := Try.prog) wr w.heap.size s s.size ty hit hlt
        have Hend := Lib.hid (cutAt_end s m)
        have r1 : (m : Int) ≤ (s.size : Int) := by omega
        clear hit
        go_wp2_with (at_builtin; refine wpList_append_any rfl _ _ 71 rfl 9 i0 (.string ⟨#[]⟩) 1 16 Try.underlying71 hi hz0 hz1 hz2 rfl (by decide) (.slice a nl c) nl (strs L) (.slice (some ⟨wr.heap.size, 0, none⟩) 1 1) 1 [.string (s.extract m s.size)] rfl rfl (Hown.out.kept ((Upd.refl (fun _ => False) wr).alloc _) (fun _ _ => id)) (Sl.made _ _ _ _ _ _ _ _ rfl rfl (by omega)) (by simp [Value.oneCell']) (by omega) (by omega) ?_)
        intro a5 c5 w5 hown5 hgr5 hb5
        have hu5 : Upd (fun b => (Value.slice a nl c).ownBlock = some b) wr w5 := Upd.grown ((Upd.refl _ _).alloc _) hgr5 (fun b hb _ => hb)
        have hwr : w.heap.size ≤ wr.heap.size := Hb.out.size
        have Hb5 := Lib.hid (Hb.out.upd (Nat.le_refl _) hu5 (fun b hb => Hfr.out b hb))
        have Hfr5 : Hid (∀ b, (Value.slice a5 (nl + 1) c5).ownBlock = some b → w.heap.size ≤ b) := fun b hb => by
          by_cases h : (Value.slice a nl c).ownBlock = some b
          · exact Hfr.out b h
          · have h3 := hb5 b h hb
            omega
        have Hown5 := Lib.hid hown5
        clear hown5 hgr5 hb5 hu5 hnx
        go_wp2
        go_ret
        have hp : pieces s = L ++ [s.extract m s.size] := by rw [← Hcut.out, Hend.out]
        exact ⟨nl + 1, a5, c5, rfl, by rw [hp, List.length_append, HL.out]; rfl, by rw [hp, strs_append]; exact Hown5.out, Hb5.out, Hfr5.out⟩
set_option maxHeartbeats 2000000 in
set_option maxRecDepth 100000 in
theorem refPieces_any (w : World) (s : ByteArray) (hs : s.size ≤ 1000000000) :
    Calls Try.prog 116 #[.string s] w fun e w' => ∃ (n : Nat) (a : Option Addr) (c : Nat), e = .returned (.slice a n c) ∧ (pieces s).length = n ∧ Own w' 9 1 (.slice a n c) n (strs (pieces s)) ∧ Below w.heap.size w w' ∧ (∀ b, (Value.slice a n c).ownBlock = some b → w.heap.size ≤ b) := by
  by_cases h0 : s = ⟨#[]⟩
  · subst h0
    have he : pieces (⟨#[]⟩ : ByteArray) = [] := by unfold pieces; rfl
    rw [he]
    clear he
    go_enter Try.func116, Try.ntmps116
    go_wp2
    go_ret
    exact ⟨0, none, 0, rfl, rfl, Own.nil _ _ _, Below.refl _ _, fun b hb => by simp [Value.ownBlock] at hb⟩
  · have hs0 : s.size ≠ 0 := fun e => h0 (by cases s with | mk d => cases d with | mk l => cases l with | nil => rfl | cons x r => simp [ByteArray.size] at e)
    have hpe2 : (s.toList == ([] : List UInt8)) = false := by
      rw [beq_eq_false_iff_ne]
      intro e
      have := toList_len s
      rw [e] at this
      exact hs0 this.symm
    have Hp := Lib.hid (show pieces s = cutAt s 0 0 by unfold pieces; rw [if_neg hs0])
    obtain ⟨i0, hi, hz0, hz1, hz2⟩ := info_parts info_text
    clear h0 hs0
    go_enter Try.func116, Try.ntmps116
    go_wp2_with fail
    go_loopw [3, 4, 5] (fun l fr i wr => ∃ (k m nl : Nat) (L : List ByteArray) (a : Option Addr) (c : Nat), k ≤ s.size ∧ m ≤ k ∧ l = .slice a nl c ∧ fr = .int .i64 m ∧ i = .int .i64 k ∧ nl ≤ k ∧ Own wr 9 1 (.slice a nl c) nl (strs L) ∧ L ++ cutAt s m k = pieces s ∧ L.length = nl ∧ Below w.heap.size w wr ∧ (∀ b, (Value.slice a nl c).ownBlock = some b → w.heap.size ≤ b)) (fun _ _ i _ => s.size - (intOf i).toNat)
    case atStart => exact ⟨0, 0, 0, [], none, 0, Nat.zero_le _, Nat.le_refl _, rfl, rfl, rfl, Nat.le_refl _, Own.nil _ _ _, Hp.out.symm, rfl, Below.refl _ _, fun b hb => by simp [Value.ownBlock] at hb⟩
    case round =>
      obtain ⟨k, m, nl, L, a, c, hk, hmk, rfl, rfl, rfl, hnl, hown, hcut, hL, hb, hfr⟩ := hrel
      have Hown := Lib.hid hown
      have Hcut := Lib.hid hcut
      have HL := Lib.hid hL
      have Hb := Lib.hid hb
      have Hfr := Lib.hid hfr
      clear hown hcut hL hb hfr
      by_cases hlt : k < s.size
      · by_cases h47 : (s[k]'hlt).toNat = 47
        · have Hhit := Lib.hid (cutAt_hit s m k hlt h47)
          have e1 : (((s[k]'hlt).toNat : Int) == 47) = true := by rw [h47]; rfl
          have r1 : (m : Int) ≤ (k : Int) := by omega
          have r2 : (k : Int) ≤ (s.size : Int) := by omega
          clear h47
          go_wp2_with (at_builtin; refine wpList_append_any rfl _ _ 71 rfl 9 i0 (.string ⟨#[]⟩) 1 16 Try.underlying71 hi hz0 hz1 hz2 rfl (by decide) (.slice a nl c) nl (strs L) (.slice (some ⟨wr.heap.size, 0, none⟩) 1 1) 1 [.string (s.extract m k)] rfl rfl (Hown.out.kept ((Upd.refl (fun _ => False) wr).alloc _) (fun _ _ => id)) (Sl.made _ _ _ _ _ _ _ _ rfl rfl (by omega)) (by simp [Value.oneCell']) (by omega) (by omega) ?_)
          intro a5 c5 w5 hown5 hgr5 hb5
          have hu5 : Upd (fun b => (Value.slice a nl c).ownBlock = some b) wr w5 := Upd.grown ((Upd.refl _ _).alloc _) hgr5 (fun b hb _ => hb)
          have hwr : w.heap.size ≤ wr.heap.size := Hb.out.size
          have Hb5 := Lib.hid (Hb.out.upd (Nat.le_refl _) hu5 (fun b hb => Hfr.out b hb))
          have Hfr5 : Hid (∀ b, (Value.slice a5 (nl + 1) c5).ownBlock = some b → w.heap.size ≤ b) := fun b hb => by
            by_cases h : (Value.slice a nl c).ownBlock = some b
            · exact Hfr.out b h
            · have h3 := hb5 b h hb
              omega
          have Hown5 := Lib.hid hown5
          clear hown5 hgr5 hb5 hu5
          go_wp2
          go_roundw
          case rel => exact ⟨k + 1, k + 1, nl + 1, L ++ [s.extract m k], a5, c5, hlt, Nat.le_refl _, rfl, by go_num, by go_num, by omega, by rw [strs_append]; exact Hown5.out, by rw [List.append_assoc, ← Hcut.out, Hhit.out]; rfl, by rw [List.length_append, HL.out]; rfl, Hb5.out, Hfr5.out⟩
          case measure => simp [intOf]; omega
        · have Hmiss := Lib.hid (cutAt_miss s m k hlt h47)
          have e1 : (((s[k]'hlt).toNat : Int) == 47) = false := by rw [beq_eq_false_iff_ne]; omega
          clear h47
          go_wp2
          go_roundw
          case rel => exact ⟨k + 1, m, nl, L, a, c, hlt, by omega, rfl, rfl, by go_num, by omega, Hown.out, by rw [← Hmiss.out]; exact Hcut.out, HL.out, Hb.out, Hfr.out⟩
          case measure => simp [intOf]; omega
      · obtain rfl : k = s.size := by omega
        have Hend := Lib.hid (cutAt_end s m)
        have r1 : (m : Int) ≤ (s.size : Int) := by omega
        go_wp2_with (at_builtin; refine wpList_append_any rfl _ _ 71 rfl 9 i0 (.string ⟨#[]⟩) 1 16 Try.underlying71 hi hz0 hz1 hz2 rfl (by decide) (.slice a nl c) nl (strs L) (.slice (some ⟨wr.heap.size, 0, none⟩) 1 1) 1 [.string (s.extract m s.size)] rfl rfl (Hown.out.kept ((Upd.refl (fun _ => False) wr).alloc _) (fun _ _ => id)) (Sl.made _ _ _ _ _ _ _ _ rfl rfl (by omega)) (by simp [Value.oneCell']) (by omega) (by omega) ?_)
        intro a5 c5 w5 hown5 hgr5 hb5
        have hu5 : Upd (fun b => (Value.slice a nl c).ownBlock = some b) wr w5 := Upd.grown ((Upd.refl _ _).alloc _) hgr5 (fun b hb _ => hb)
        have hwr : w.heap.size ≤ wr.heap.size := Hb.out.size
        have Hb5 := Lib.hid (Hb.out.upd (Nat.le_refl _) hu5 (fun b hb => Hfr.out b hb))
        have Hfr5 : Hid (∀ b, (Value.slice a5 (nl + 1) c5).ownBlock = some b → w.heap.size ≤ b) := fun b hb => by
          by_cases h : (Value.slice a nl c).ownBlock = some b
          · exact Hfr.out b h
          · have h3 := hb5 b h hb
            omega
        have Hown5 := Lib.hid hown5
        clear hown5 hgr5 hb5 hu5
        go_wp2
        go_ret
        have hp : pieces s = L ++ [s.extract m s.size] := by rw [← Hcut.out, Hend.out]
        exact ⟨nl + 1, a5, c5, rfl, by rw [hp, List.length_append, HL.out]; rfl, by rw [hp, strs_append]; exact Hown5.out, Hb5.out, Hfr5.out⟩
/-- The error of a path of at most so many names. -/
def splitErr (s : ByteArray) (m : Nat) : Int := if m < (pieces s).length then 31 else if (pieces s).all okName then 0 else 30
theorem splitErr_zero {s : ByteArray} {m : Nat} (h : splitErr s m = 0) : (pieces s).length ≤ m ∧ ∀ x ∈ pieces s, okName x = true := by
  unfold splitErr at h
  split at h
  · cases h
  · split at h
    · rename_i h1 h2
      exact ⟨by omega, by simpa using h2⟩
    · cases h
theorem splitErr_bad {s : ByteArray} {m : Nat} (h : splitErr s m ≠ 0) : (m < (pieces s).length ∧ splitErr s m = 31) ∨ ((pieces s).length ≤ m ∧ splitErr s m = 30 ∧ ∃ i, ∃ h : i < (pieces s).length, okName (pieces s)[i] = false ∧ ∀ j (hj : j < i), okName ((pieces s)[j]'(by omega)) = true) := by
  unfold splitErr at h ⊢
  split
  · rename_i h1; exact .inl ⟨h1, rfl⟩
  · rename_i h1
    rw [if_neg h1] at h
    split
    · rename_i h2; rw [if_pos h2] at h; exact absurd rfl h
    · rename_i h2
      refine .inr ⟨by omega, rfl, ?_⟩
      have key : ∀ l : List ByteArray, ¬ (l.all okName = true) → ∃ i, ∃ h : i < l.length, okName l[i] = false ∧ ∀ j (hj : j < i), okName (l[j]'(by omega)) = true := by
        intro l
        induction l with
        | nil => intro h; simp at h
        | cons x r ih =>
          intro h
          cases hx : okName x with
          | false => exact ⟨0, by simp, hx, fun j hj => by omega⟩
          | true =>
            rw [List.all_cons, hx, Bool.true_and] at h
            obtain ⟨i, hi, h1, h2⟩ := ih h
            refine ⟨i + 1, by simp; omega, by simpa using h1, fun j hj => ?_⟩
            cases j with
            | zero => simpa using hx
            | succ j => simpa using h2 j (by omega)
      exact key _ h2
set_option maxHeartbeats 2000000 in
set_option maxRecDepth 100000 in
theorem split_ok (w : World) (s : ByteArray) (m : Nat) (hm : m ≤ 1000000) (hs : s.size ≤ 1000000000) (h0 : splitErr s m = 0) :
    Calls Try.prog 84 #[.string s, .int .i64 m] w fun e w' => ∃ (n : Nat) (a : Option Addr) (c : Nat), e = .returned (.tuple #[.slice a n c, .int .i64 0]) ∧ (pieces s).length = n ∧ Own w' 9 1 (.slice a n c) n (strs (pieces s)) ∧ Below w.heap.size w w' ∧ (∀ b, (Value.slice a n c).ownBlock = some b → w.heap.size ≤ b) := by
  obtain ⟨hl, hok⟩ := splitErr_zero h0
  have Hok := Lib.hid (show ∀ i (h : i < (pieces s).length), okName ((pieces s)[i]'h) = true from fun i h => hok _ (List.getElem_mem h))
  have Hps := Lib.hid (pieces_size s).1
  have m0 : ¬ ((m : Int) < 0) := by omega
  have m2 : decide ((m : Int) < 0) = false := decide_eq_false m0
  have m1 : (if (m : Int) < 0 then (0 : Int) else (m : Int)) = (m : Int) := by rw [if_neg m0]
  have Hl := Lib.hid hl
  clear hok h0 hl
  go_enter Try.func84, Try.ntmps84
  go_wp2_with fail
  refine (pieces_any w s hs).mono ?_
  rintro e w1 ⟨n, a, c, rfl, hn, hown, hb, hfr⟩
  have Hn := Lib.hid hn
  have hnm : n ≤ m := by have := Hl.out; omega
  have Hown := Lib.hid hown
  have Hb := Lib.hid hb
  have Hfr := Lib.hid hfr
  have n1 : ¬ ((m : Int) < (n : Int)) := by omega
  have n2 : decide ((m : Int) < (n : Int)) = false := decide_eq_false n1
  have n3 : decide (m < n) = false := decide_eq_false (by omega)
  clear hn hown hb hfr
  go_wp2_with fail
  go_loopw [19] (fun i wr => ∃ k : Nat, k ≤ n ∧ i = .int .i64 k ∧ Below w1.heap.size w1 wr) (fun i _ => n - (intOf i).toNat)
  case atStart => exact ⟨0, Nat.zero_le _, rfl, Below.refl _ _⟩
  case round =>
    obtain ⟨k, hk, rfl, hbe⟩ := hrel
    have Hbe := Lib.hid hbe
    clear hbe
    by_cases hlt : k < n
    · have hkp : k < (pieces s).length := by rw [Hn.out]; exact hlt
      obtain ⟨x, hx⟩ : ∃ x, x = (pieces s)[k]'hkp := ⟨_, rfl⟩
      obtain ⟨g, off, rfl, _, hcc⟩ := (Hown.out.sl.below Hbe.out).open_ (by simp [strs]; omega)
      have f0 := hcc k (.string x) (by simp [strs, hx, List.getElem?_eq_getElem hkp])
      have hxo := Hok.out k hkp
      have hxs : x.size ≤ 1000000000 := Nat.le_trans (by rw [hx]; exact Hps.out _ (List.getElem_mem hkp)) hs
      rw [← hx] at hxo
      have He : Hid (nameErr x = 0) := by show _ = _; unfold nameErr; rw [hxo]; rfl
      have i1 : (0 : Int) ≤ (k : Int) := by omega
      have i2 : (k : Int) < (n : Int) := by omega
      clear hcc hx hxo
      go_wp2_with fail
      refine (check_name wr x (by omega)).mono ?_
      rintro e w5 ⟨rfl, hb5⟩
      rw [He.out]
      have Hb5 := Lib.hid (Hbe.out.trans (hb5.mono Hbe.out.size))
      clear hb5
      go_wp2
      go_roundw
      case rel => exact ⟨k + 1, hlt, by go_num, Hb5.out⟩
      case measure => simp [intOf]; omega
    · obtain rfl : k = n := by omega
      clear hlt
      go_wp2
      go_ret2
      exact ⟨k, a, c, rfl, Hn.out, Hown.out.kept (Upd.below Hbe.out fun _ => False) (fun _ _ => id), below_on Hb.out Hbe.out, Hfr.out⟩
set_option maxHeartbeats 2000000 in
set_option maxRecDepth 100000 in
theorem split_bad (w : World) (s : ByteArray) (m : Nat) (hm : m ≤ 1000000) (hs : s.size ≤ 1000000000) (h0 : splitErr s m ≠ 0) :
    Calls Try.prog 84 #[.string s, .int .i64 m] w fun e w' => e = .returned (.tuple #[.slice none 0 0, .int .i64 (splitErr s m)]) ∧ Below w.heap.size w w' := by
  have m0 : ¬ ((m : Int) < 0) := by omega
  have m2 : decide ((m : Int) < 0) = false := decide_eq_false m0
  have m1 : (if (m : Int) < 0 then (0 : Int) else (m : Int)) = (m : Int) := by rw [if_neg m0]
  rcases splitErr_bad h0 with ⟨hl, he⟩ | ⟨hl, he, i, hi, hbad, hgood⟩
  · rw [he]
    have Hl := Lib.hid hl
    clear h0 he hl
    go_enter Try.func84, Try.ntmps84
    go_wp2_with fail
    refine (pieces_any w s hs).mono ?_
    rintro e w1 ⟨n, a, c, rfl, hn, hown, hb, hfr⟩
    have hnm : m < n := by have := Hl.out; omega
    have Hb := Lib.hid hb
    have n1 : (m : Int) < (n : Int) := by omega
    have n2 : decide ((m : Int) < (n : Int)) = true := decide_eq_true n1
    clear hn hown hb hfr
    go_wp2
    go_ret2
    exact ⟨rfl, Hb.out⟩
  · rw [he]
    have Hl := Lib.hid hl
    have Hi := Lib.hid (And.intro hbad hgood)
    have Hps := Lib.hid (pieces_size s).1
    clear h0 he hl hbad hgood
    go_enter Try.func84, Try.ntmps84
    go_wp2_with fail
    refine (pieces_any w s hs).mono ?_
    rintro e w1 ⟨n, a, c, rfl, hn, hown, hb, hfr⟩
    have Hn := Lib.hid hn
    have hnm : n ≤ m := by have := Hl.out; omega
    have hin : i < n := by omega
    have Hown := Lib.hid hown
    have Hb := Lib.hid hb
    have n1 : ¬ ((m : Int) < (n : Int)) := by omega
    have n2 : decide ((m : Int) < (n : Int)) = false := decide_eq_false n1
    have n3 : decide (m < n) = false := decide_eq_false (by omega)
    clear hn hown hb hfr
    go_wp2_with fail
    go_loopw [19] (fun j wr => ∃ k : Nat, k ≤ i ∧ j = .int .i64 k ∧ Below w1.heap.size w1 wr) (fun j _ => n - (intOf j).toNat)
    case atStart => exact ⟨0, Nat.zero_le _, rfl, Below.refl _ _⟩
    case round =>
      obtain ⟨k, hk, rfl, hbe⟩ := hrel
      have Hbe := Lib.hid hbe
      clear hbe
      have hlt : k < n := by omega
      have hkp : k < (pieces s).length := by rw [Hn.out]; exact hlt
      obtain ⟨x, hx⟩ : ∃ x, x = (pieces s)[k]'hkp := ⟨_, rfl⟩
      obtain ⟨g, off, rfl, _, hcc⟩ := (Hown.out.sl.below Hbe.out).open_ (by simp [strs]; omega)
      have f0 := hcc k (.string x) (by simp [strs, hx, List.getElem?_eq_getElem hkp])
      have hxs : x.size ≤ 1000000000 := Nat.le_trans (by rw [hx]; exact Hps.out _ (List.getElem_mem hkp)) hs
      have i1 : (0 : Int) ≤ (k : Int) := by omega
      have i2 : (k : Int) < (n : Int) := by omega
      by_cases hki : k = i
      · subst hki
        have hxo : okName x = false := by rw [hx]; exact Hi.out.1
        have He : Hid (nameErr x = 30) := by show _ = _; unfold nameErr; rw [hxo]; rfl
        clear hcc hx hxo
        go_wp2_with fail
        refine (check_name wr x (by omega)).mono ?_
        rintro e w5 ⟨rfl, hb5⟩
        rw [He.out]
        have Hb5 := Lib.hid (Hbe.out.trans (hb5.mono Hbe.out.size))
        clear hb5
        go_wp2
        go_ret2
        exact ⟨rfl, below_on Hb.out Hb5.out⟩
      · have hxo : okName x = true := by rw [hx]; exact Hi.out.2 k (by omega)
        have He : Hid (nameErr x = 0) := by show _ = _; unfold nameErr; rw [hxo]; rfl
        clear hcc hx hxo
        go_wp2_with fail
        refine (check_name wr x (by omega)).mono ?_
        rintro e w5 ⟨rfl, hb5⟩
        rw [He.out]
        have Hb5 := Lib.hid (Hbe.out.trans (hb5.mono Hbe.out.size))
        clear hb5
        go_wp2
        go_roundw
        case rel => exact ⟨k + 1, by omega, by go_num, Hb5.out⟩
        case measure => simp [intOf]; omega
set_option maxHeartbeats 2000000 in
set_option maxRecDepth 100000 in
theorem refSplit_ok (w : World) (s : ByteArray) (m : Nat) (hm : m ≤ 1000000) (hs : s.size ≤ 1000000000) (h0 : splitErr s m = 0) :
    Calls Try.prog 87 #[.string s, .int .i64 m] w fun e w' => ∃ (n : Nat) (a : Option Addr) (c : Nat), e = .returned (.tuple #[.slice a n c, .int .i64 0]) ∧ (pieces s).length = n ∧ Own w' 9 1 (.slice a n c) n (strs (pieces s)) ∧ Below w.heap.size w w' ∧ (∀ b, (Value.slice a n c).ownBlock = some b → w.heap.size ≤ b) := by
  obtain ⟨hl, hok⟩ := splitErr_zero h0
  have Hok := Lib.hid (show ∀ i (h : i < (pieces s).length), okName ((pieces s)[i]'h) = true from fun i h => hok _ (List.getElem_mem h))
  have Hps := Lib.hid (pieces_size s).1
  have m0 : ¬ ((m : Int) < 0) := by omega
  have m2 : decide ((m : Int) < 0) = false := decide_eq_false m0
  have m1 : (if (m : Int) < 0 then (0 : Int) else (m : Int)) = (m : Int) := by rw [if_neg m0]
  have Hl := Lib.hid hl
  clear hok h0 hl
  go_enter Try.func87, Try.ntmps87
  go_wp2_with fail
  refine (refPieces_any w s hs).mono ?_
  rintro e w1 ⟨n, a, c, rfl, hn, hown, hb, hfr⟩
  have Hn := Lib.hid hn
  have hnm : n ≤ m := by have := Hl.out; omega
  have Hown := Lib.hid hown
  have Hb := Lib.hid hb
  have Hfr := Lib.hid hfr
  have n1 : ¬ ((m : Int) < (n : Int)) := by omega
  have n2 : decide ((m : Int) < (n : Int)) = false := decide_eq_false n1
  have n3 : decide (m < n) = false := decide_eq_false (by omega)
  clear hn hown hb hfr
  go_wp2_with fail
  go_loopw [7] (fun i wr => ∃ k : Nat, k ≤ n ∧ i = .int .i64 k ∧ Below w1.heap.size w1 wr) (fun i _ => n - (intOf i).toNat)
  case atStart => exact ⟨0, Nat.zero_le _, rfl, Below.refl _ _⟩
  case round =>
    obtain ⟨k, hk, rfl, hbe⟩ := hrel
    have Hbe := Lib.hid hbe
    clear hbe
    by_cases hlt : k < n
    · have hkp : k < (pieces s).length := by rw [Hn.out]; exact hlt
      obtain ⟨x, hx⟩ : ∃ x, x = (pieces s)[k]'hkp := ⟨_, rfl⟩
      obtain ⟨g, off, rfl, _, hcc⟩ := (Hown.out.sl.below Hbe.out).open_ (by simp [strs]; omega)
      have f0 := hcc k (.string x) (by simp [strs, hx, List.getElem?_eq_getElem hkp])
      have hxo := Hok.out k hkp
      have hxs : x.size ≤ 1000000000 := Nat.le_trans (by rw [hx]; exact Hps.out _ (List.getElem_mem hkp)) hs
      rw [← hx] at hxo
      have He : Hid (okName x = true) := by exact hxo
      have i1 : (0 : Int) ≤ (k : Int) := by omega
      have i2 : (k : Int) < (n : Int) := by omega
      clear hcc hx hxo
      go_wp2_with fail
      refine (name_any wr x (by omega)).mono ?_
      rintro e w5 ⟨rfl, hw5⟩
      obtain rfl := hw5.symm
      have hb5 : Below wr.heap.size wr wr := Below.refl _ _
      rw [He.out]
      have Hb5 := Lib.hid (Hbe.out.trans (hb5.mono Hbe.out.size))
      clear hb5
      go_wp2
      go_roundw
      case rel => exact ⟨k + 1, hlt, by go_num, Hb5.out⟩
      case measure => simp [intOf]; omega
    · obtain rfl : k = n := by omega
      clear hlt
      go_wp2
      go_ret2
      exact ⟨k, a, c, rfl, Hn.out, Hown.out.kept (Upd.below Hbe.out fun _ => False) (fun _ _ => id), below_on Hb.out Hbe.out, Hfr.out⟩
set_option maxHeartbeats 2000000 in
set_option maxRecDepth 100000 in
theorem refSplit_bad (w : World) (s : ByteArray) (m : Nat) (hm : m ≤ 1000000) (hs : s.size ≤ 1000000000) (h0 : splitErr s m ≠ 0) :
    Calls Try.prog 87 #[.string s, .int .i64 m] w fun e w' => e = .returned (.tuple #[.slice none 0 0, .int .i64 (splitErr s m)]) ∧ Below w.heap.size w w' := by
  have m0 : ¬ ((m : Int) < 0) := by omega
  have m2 : decide ((m : Int) < 0) = false := decide_eq_false m0
  have m1 : (if (m : Int) < 0 then (0 : Int) else (m : Int)) = (m : Int) := by rw [if_neg m0]
  rcases splitErr_bad h0 with ⟨hl, he⟩ | ⟨hl, he, i, hi, hbad, hgood⟩
  · rw [he]
    have Hl := Lib.hid hl
    clear h0 he hl
    go_enter Try.func87, Try.ntmps87
    go_wp2_with fail
    refine (refPieces_any w s hs).mono ?_
    rintro e w1 ⟨n, a, c, rfl, hn, hown, hb, hfr⟩
    have hnm : m < n := by have := Hl.out; omega
    have Hb := Lib.hid hb
    have n1 : (m : Int) < (n : Int) := by omega
    have n2 : decide ((m : Int) < (n : Int)) = true := decide_eq_true n1
    clear hn hown hb hfr
    go_wp2
    go_ret2
    exact ⟨rfl, Hb.out⟩
  · rw [he]
    have Hl := Lib.hid hl
    have Hi := Lib.hid (And.intro hbad hgood)
    have Hps := Lib.hid (pieces_size s).1
    clear h0 he hl hbad hgood
    go_enter Try.func87, Try.ntmps87
    go_wp2_with fail
    refine (refPieces_any w s hs).mono ?_
    rintro e w1 ⟨n, a, c, rfl, hn, hown, hb, hfr⟩
    have Hn := Lib.hid hn
    have hnm : n ≤ m := by have := Hl.out; omega
    have hin : i < n := by omega
    have Hown := Lib.hid hown
    have Hb := Lib.hid hb
    have n1 : ¬ ((m : Int) < (n : Int)) := by omega
    have n2 : decide ((m : Int) < (n : Int)) = false := decide_eq_false n1
    have n3 : decide (m < n) = false := decide_eq_false (by omega)
    clear hn hown hb hfr
    go_wp2_with fail
    go_loopw [7] (fun j wr => ∃ k : Nat, k ≤ i ∧ j = .int .i64 k ∧ Below w1.heap.size w1 wr) (fun j _ => n - (intOf j).toNat)
    case atStart => exact ⟨0, Nat.zero_le _, rfl, Below.refl _ _⟩
    case round =>
      obtain ⟨k, hk, rfl, hbe⟩ := hrel
      have Hbe := Lib.hid hbe
      clear hbe
      have hlt : k < n := by omega
      have hkp : k < (pieces s).length := by rw [Hn.out]; exact hlt
      obtain ⟨x, hx⟩ : ∃ x, x = (pieces s)[k]'hkp := ⟨_, rfl⟩
      obtain ⟨g, off, rfl, _, hcc⟩ := (Hown.out.sl.below Hbe.out).open_ (by simp [strs]; omega)
      have f0 := hcc k (.string x) (by simp [strs, hx, List.getElem?_eq_getElem hkp])
      have hxs : x.size ≤ 1000000000 := Nat.le_trans (by rw [hx]; exact Hps.out _ (List.getElem_mem hkp)) hs
      have i1 : (0 : Int) ≤ (k : Int) := by omega
      have i2 : (k : Int) < (n : Int) := by omega
      by_cases hki : k = i
      · subst hki
        have hxo : okName x = false := by rw [hx]; exact Hi.out.1
        have He : Hid (okName x = false) := by exact hxo
        clear hcc hx hxo
        go_wp2_with fail
        refine (name_any wr x (by omega)).mono ?_
        rintro e w5 ⟨rfl, hw5⟩
        obtain rfl := hw5.symm
        have hb5 : Below wr.heap.size wr wr := Below.refl _ _
        rw [He.out]
        have Hb5 := Lib.hid (Hbe.out.trans (hb5.mono Hbe.out.size))
        clear hb5
        go_wp2
        go_ret2
        exact ⟨rfl, below_on Hb.out Hb5.out⟩
      · have hxo : okName x = true := by rw [hx]; exact Hi.out.2 k (by omega)
        have He : Hid (okName x = true) := by exact hxo
        clear hcc hx hxo
        go_wp2_with fail
        refine (name_any wr x (by omega)).mono ?_
        rintro e w5 ⟨rfl, hw5⟩
        obtain rfl := hw5.symm
        have hb5 : Below wr.heap.size wr wr := Below.refl _ _
        rw [He.out]
        have Hb5 := Lib.hid (Hbe.out.trans (hb5.mono Hbe.out.size))
        clear hb5
        go_wp2
        go_roundw
        case rel => exact ⟨k + 1, by omega, by go_num, Hb5.out⟩
        case measure => simp [intOf]; omega
end Go.Proofs.Ythnbinlllmkabaa
