/- The digest of bytes in pieces, and the contract of sum.Digest. -/
import Derived.Test.YtefobboakikpbaaDoorSha6
namespace Go.Proofs.YtefobboakikpbaaDoor
open Go.RowKit
set_option linter.unusedVariables false
set_option linter.unusedSimpArgs false

/-- The sums of the first k pieces, one behind the other. -/
def shasTo (l : List UInt8) (k : Nat) : List UInt8 := (List.range k).flatMap fun i => sha ((l.drop (512 * i)).take 512)
theorem shasTo_succ (l : List UInt8) (k : Nat) : shasTo l (k + 1) = shasTo l k ++ sha ((l.drop (512 * k)).take 512) := by
  unfold shasTo
  rw [List.range_succ, List.flatMap_append]
  simp
theorem shasTo_length (l : List UInt8) (k : Nat) : (shasTo l k).length = 32 * k := by
  induction k with
  | zero => rfl
  | succ k ih => rw [shasTo_succ, List.length_append, ih, sha_length]; omega
def pieceCount (n : Nat) : Nat := (n + 511) / 512
def digest (l : List UInt8) : List UInt8 := sha (shasTo l (pieceCount l.length))

/-- s[:k] of a slice that is read. -/
theorem Sl.to {w : World} {n c k : Nat} {a : Option Addr} {l : List UInt8} (h : Sl w 1 (.slice a n c) n (bytes l)) (hk : k ≤ n) : Sl w 1 (.slice a k c) k (bytes (l.take k)) := by
  obtain ⟨a0, c0, he, hl, hm, hc⟩ := h
  injection he with h1 h2 h3
  subst h1 h3
  have hb : bytes (l.take k) = (bytes l).take k := by simp [bytes, List.map_take]
  refine ⟨a, c, rfl, by rw [hb, List.length_take, hl]; omega, by omega, fun hx => ?_⟩
  have hne : bytes l ≠ [] := by intro e; rw [hb, e] at hx; simp at hx
  obtain ⟨ad, rfl, h2⟩ := hc hne
  refine ⟨ad, rfl, fun j u hj => h2 j u ?_⟩
  rw [hb, List.getElem?_take] at hj
  split at hj
  · exact hj
  · cases hj
/-- A new list of one part. -/
theorem parts_one (w : World) (T : TypeId) (a : Option Addr) (c : Nat) (x : List UInt8) (h : Sl w 1 (.slice a x.length c) x.length (bytes x)) : Parts (w.alloc (.cells #[.slice a x.length c] T)) (.slice (some ⟨w.heap.size, 0, none⟩) 1 1) [x] := by
  refine ⟨[.slice a x.length c], Sl.made w T 1 1 1 _ (0, 0) _ rfl rfl (by decide), fun i hi => ?_⟩
  have h0 : i = 0 := by simpa using hi
  subst h0
  exact ⟨a, c, rfl, h.kept ((Upd.refl (fun _ => False) _).alloc _) (fun _ _ _ => id)⟩

set_option maxHeartbeats 2000000 in
set_option maxRecDepth 100000 in
theorem digest_any (w : World) (hk : KeysAt w) (hbg : BeginAt w) (a : Option Addr) (c : Nat) (l : List UInt8) (hl : Sl w 1 (.slice a l.length c) l.length (bytes l)) (hlc : l.length ≤ c) (hlen : l.length ≤ 70368744177664) :
    Calls Tryd.prog 29 #[.slice a l.length c] w fun e w' => e = .returned (.agg (bytes (digest l)).toArray) ∧ Below w.heap.size w w' := by
  obtain ⟨Z, hZ⟩ : ∃ Z : Array Value, Z = Array.replicate 32 (.int .u8 0) := ⟨_, rfl⟩
  have hbg1 : ∀ o, BeginAt (w.alloc o) := fun o => hbg.below ((Below.refl _ _).alloc (Nat.le_refl _) o)
  have hwl := hk.lt
  have Hk := Lib.hid hk
  have Hbg := Lib.hid hbg
  have Hbg1 := Lib.hid hbg1
  have HZ := Lib.hid hZ
  have hin0 : ∀ b, (Value.slice a l.length c).ownBlock = some b → l ≠ [] → b < w.heap.size := by
    intro b hb hne
    obtain ⟨g, off, rfl, hg, _⟩ := hl.open_ (by rw [bytes_length]; exact List.length_pos_iff.2 hne)
    have : g = b := by simpa [Value.ownBlock] using hb
    omega
  have Hin0 := Lib.hid hin0
  clear hin0
  have Hl := Lib.hid hl
  clear hk hbg hbg1 hZ hl
  go_enter Tryd.func29, Tryd.ntmps29
  go_wp2_with fail
  refine (newPieces_any _ (Hbg1.out _)).mono ?_
  rintro e w1 ⟨rfl, hp1, hb1⟩
  have hz1 : w1.heap[w.heap.size]? = some (.cells Z 26 (0, 0)) := by
    rw [hb1.block _ (by simp), HZ.out]; exact heap_alloc_new _ _
  have hbw1 : Below w.heap.size w w1 := ((Below.refl _ _).alloc (Nat.le_refl _) _).trans (hb1.mono (by simp))
  simp only [World.size_alloc] at hp1
  have Hp1 := Lib.hid hp1
  have Hz1 := Lib.hid hz1
  have Hbw1 := Lib.hid hbw1
  clear hp1 hz1 hb1 hbw1
  go_wp2_with fail
  go_loopg [0] (l.length) (fun n v wr => ∃ (k : Nat) (r : List UInt8) (a2 : Option Addr) (c2 : Nat) (g : Option Nat), n = r.length ∧ v = .slice a2 r.length c2 ∧ r = l.drop (512 * k) ∧ 512 * k + r.length ≤ l.length + 511 ∧ Sl wr 1 (.slice a2 r.length c2) r.length (bytes r) ∧ r.length ≤ c2 ∧
      PiecesAt wr (w.heap.size + 1 + 1) (w.heap.size + 1) g (shasTo l k) ∧ (∀ b, g = some b → w.heap.size < b) ∧ Below w.heap.size w wr ∧ wr.heap[w.heap.size]? = some (.cells Z 26 (0, 0)) ∧ (∀ b, (Value.slice a2 r.length c2).ownBlock = some b → r ≠ [] → b < w.heap.size))
  case atStart => exact ⟨0, l, a, c, none, rfl, rfl, rfl, by omega, Hl.out.below Hbw1.out, hlc, Hp1.out, by simp, Hbw1.out, Hz1.out, Hin0.out⟩
  case round =>
    obtain ⟨k, r, a2, c2, g, rfl, rfl, hr, hkl, hsl, hrc, hp, hg, hbe, hz, hin⟩ := hrel
    have hrl : r.length = l.length - 512 * k := by rw [hr, List.length_drop]
    have Hr := Lib.hid hr
    have Hsl := Lib.hid hsl
    have Hp := Lib.hid hp
    have Hg := Lib.hid hg
    have Hbe := Lib.hid hbe
    have Hz := Lib.hid hz
    have Hrl := Lib.hid hrl
    have Hin := Lib.hid hin
    have Hkl := Lib.hid hkl
    have hr7 : r.length ≤ 70368744177664 := by omega
    clear hin hr hsl hp hg hbe hz hrl hkl
    by_cases h0 : 0 < r.length
    · by_cases h5 : 512 < r.length
      ·
        obtain ⟨y, hy⟩ : ∃ y, y = r.take 512 := ⟨_, rfl⟩
        have hx : y.length = 512 := by rw [hy, List.length_take]; omega
        have hslx := Hsl.out.to (show 512 ≤ r.length by omega)
        rw [← hy] at hslx
        have hpo : Parts (wr.alloc (.cells #[.slice a2 512 c2] 24)) (.slice (some ⟨wr.heap.size, 0, none⟩) 1 1) [y] := by
          have h := parts_one wr 24 a2 c2 y (by rw [hx]; exact hslx)
          rwa [hx] at h
        obtain ⟨a4, _, hs4, _, hsl4, hob4⟩ := Hsl.out.cut Tryd.underlying24 size_byte 512 r.length (by omega) (Nat.le_refl _) hrc
        have hcut2 := fun w => hs4 w 512 rfl rfl
        simp only [Nat.mul_one] at hsl4
        have e4 : ((bytes r).drop 512).take (r.length - 512) = bytes (r.drop 512) := by
          rw [List.take_of_length_le (by rw [List.length_drop, bytes_length]; exact Nat.le_refl _)]; simp [bytes, List.map_drop]
        rw [e4] at hsl4
        have Hpo := Lib.hid hpo
        have Hsl4 := Lib.hid hsl4
        have Hx := Lib.hid hx
        have Hy := Lib.hid hy
        have Hob4 := Lib.hid hob4
        clear hob4 hs4 hsl4 e4 hslx hpo hx hy
        go_wp2_with fail
        refine (SHA_any _ ((Hk.out.below Hbe.out).below ((Below.refl _ _).alloc (Nat.le_refl _) _)) ((Hbg.out.below Hbe.out).below ((Below.refl _ _).alloc (Nat.le_refl _) _)) _ 1 [y] Hpo.out (by simp; rw [Hx.out]; omega) (by simp)).mono ?_
        rintro e w2 ⟨rfl, hb2⟩
        have hbr2 : Below wr.heap.size wr w2 := ((Below.refl _ _).alloc (Nat.le_refl _) _).trans (hb2.mono (by simp))
        have hbe2 := Hbe.out.trans (hbr2.mono Hbe.out.size)
        have hp2 := Hp.out.kept (Upd.below hbr2 fun _ => False) id id (fun _ _ => id)
        have hz2 := (hbr2.block _ (lt_heap Hz.out)).trans Hz.out
        have hsl2 := Hsl4.out.below hbr2
        have hfl : [y].flatten = y := by simp
        rw [hfl]
        obtain ⟨X, hX⟩ : ∃ X, X = sha y := ⟨_, rfl⟩
        obtain ⟨C, hC⟩ : ∃ C, C = (bytes X).toArray := ⟨_, rfl⟩
        have hXl : X.length = 32 := by rw [hX]; rfl
        rw [← hX, ← hC]
        have HX := Lib.hid hX
        have HC := Lib.hid hC
        have HXl := Lib.hid hXl
        have Hbe2 := Lib.hid hbe2
        have Hp2 := Lib.hid hp2
        have Hz2 := Lib.hid hz2
        have Hsl2 := Lib.hid hsl2
        have Hbr2 := Lib.hid hbr2
        clear hb2 hbe2 hp2 hz2 hsl2 hfl hX hC hXl hbr2
        have hgl : g ≠ some 2 := fun h => by have := Hg.out _ h; omega
        have hql : (shasTo l k).length + 32 ≤ 70368744177664 := by rw [shasTo_length]; have := Hkl.out; omega
        go_wp2_with fail
        refine (piecesAdd_any w2 (w.heap.size + 1 + 1) (w.heap.size + 1) g (shasTo l k) Hp2.out C X (by rw [HC.out]) HXl.out ((Hk.out.below Hbe2.out)) hql (by omega) hgl).mono ?_
        rintro e w4 ⟨rfl, g', hp4, hg4, hu4⟩
        have hS : ∀ b, (b = w.heap.size + 1 ∨ g = some b) → w.heap.size < b := by
          rintro b (rfl | h)
          · omega
          · exact Hg.out b h
        have hbe4 := Hbe2.out.upd (Nat.le_refl _) hu4 (fun b h => Nat.le_of_lt (hS b h))
        have hz4 := hu4.at_ Hz2.out (fun h => Nat.lt_irrefl _ (hS _ h))
        have hg4' : ∀ b, g' = some b → w.heap.size < b := fun b hb => by
          rcases hg4 b hb with h | h
          · exact Hg.out b h
          · have := lt_heap Hz2.out; omega
        have hsl4 : Sl w4 1 (.slice a4 (r.length - 512) (c2 - 512)) (r.length - 512) (bytes (r.drop 512))  := Hsl2.out.kept hu4 (fun b hb hne h => by
          have h1 := Hin.out b (Hob4.out b hb) (by intro e; rw [e] at h0; exact absurd h0 (by simp))
          have h2 := hS b h
          omega)
        have Hp4 := Lib.hid hp4
        have Hsl5 := Lib.hid hsl4
        have Hbe4 := Lib.hid hbe4
        have Hz4 := Lib.hid hz4
        have Hg4 := Lib.hid hg4'
        clear hsl4 hp4 hg4 hu4 hS hbe4 hz4 hg4' hgl hql
        go_wp2
        all_goals
          refine Handed.intro (r.length - 512) (by omega) ?_
          go_step
          (repeat apply Exists.intro)
          refine ⟨?_, rfl⟩
          have hrl2 : (r.drop 512).length = r.length - 512 := by simp
          refine ⟨k + 1, r.drop 512, a4, c2 - 512, g', hrl2.symm, by rw [hrl2]; try simp, ?_, ?_, ?_, ?_, ?_, Hg4.out, Hbe4.out, Hz4.out, ?_⟩
          · rw [Hr.out, List.drop_drop]; congr 1; try omega
          · rw [hrl2]; have := Hkl.out; have := Hrl.out; omega
          · rw [hrl2]; exact Hsl5.out
          · rw [hrl2]; omega
          · rw [shasTo_succ, ← Hr.out]
            have h := Hp4.out
            rw [HX.out, Hy.out] at h
            skip
            exact h
          · rw [hrl2]
            intro b hb hne
            exact Hin.out b (Hob4.out b hb) (by intro e; rw [e] at h0; exact absurd h0 (by simp))

      ·
        obtain ⟨y, hy⟩ : ∃ y, y = r.take r.length := ⟨_, rfl⟩
        have hx : y.length = r.length := by rw [hy, List.length_take]; omega
        have hslx := Hsl.out.to (show r.length ≤ r.length by omega)
        rw [← hy] at hslx
        have hpo : Parts (wr.alloc (.cells #[.slice a2 r.length c2] 24)) (.slice (some ⟨wr.heap.size, 0, none⟩) 1 1) [y] := by
          have h := parts_one wr 24 a2 c2 y (by rw [hx]; exact hslx)
          rwa [hx] at h
        obtain ⟨a4, _, hs4, _, hsl4, hob4⟩ := Hsl.out.cut Tryd.underlying24 size_byte r.length r.length (by omega) (Nat.le_refl _) hrc
        have hcut2 := fun w => hs4 w r.length rfl rfl
        simp only [Nat.mul_one] at hsl4
        have e4 : ((bytes r).drop r.length).take (r.length - r.length) = bytes (r.drop r.length) := by
          rw [List.take_of_length_le (by rw [List.length_drop, bytes_length]; exact Nat.le_refl _)]; simp [bytes, List.map_drop]
        rw [e4] at hsl4
        have Hpo := Lib.hid hpo
        have Hsl4 := Lib.hid hsl4
        have Hx := Lib.hid hx
        have Hy := Lib.hid hy
        have Hob4 := Lib.hid hob4
        clear hob4 hs4 hsl4 e4 hslx hpo hx hy
        go_wp2_with fail
        refine (SHA_any _ ((Hk.out.below Hbe.out).below ((Below.refl _ _).alloc (Nat.le_refl _) _)) ((Hbg.out.below Hbe.out).below ((Below.refl _ _).alloc (Nat.le_refl _) _)) _ 1 [y] Hpo.out (by simp; rw [Hx.out]; omega) (by simp)).mono ?_
        rintro e w2 ⟨rfl, hb2⟩
        have hbr2 : Below wr.heap.size wr w2 := ((Below.refl _ _).alloc (Nat.le_refl _) _).trans (hb2.mono (by simp))
        have hbe2 := Hbe.out.trans (hbr2.mono Hbe.out.size)
        have hp2 := Hp.out.kept (Upd.below hbr2 fun _ => False) id id (fun _ _ => id)
        have hz2 := (hbr2.block _ (lt_heap Hz.out)).trans Hz.out
        have hsl2 := Hsl4.out.below hbr2
        have hfl : [y].flatten = y := by simp
        rw [hfl]
        obtain ⟨X, hX⟩ : ∃ X, X = sha y := ⟨_, rfl⟩
        obtain ⟨C, hC⟩ : ∃ C, C = (bytes X).toArray := ⟨_, rfl⟩
        have hXl : X.length = 32 := by rw [hX]; rfl
        rw [← hX, ← hC]
        have HX := Lib.hid hX
        have HC := Lib.hid hC
        have HXl := Lib.hid hXl
        have Hbe2 := Lib.hid hbe2
        have Hp2 := Lib.hid hp2
        have Hz2 := Lib.hid hz2
        have Hsl2 := Lib.hid hsl2
        have Hbr2 := Lib.hid hbr2
        clear hb2 hbe2 hp2 hz2 hsl2 hfl hX hC hXl hbr2
        have hgl : g ≠ some 2 := fun h => by have := Hg.out _ h; omega
        have hql : (shasTo l k).length + 32 ≤ 70368744177664 := by rw [shasTo_length]; have := Hkl.out; omega
        go_wp2_with fail
        refine (piecesAdd_any w2 (w.heap.size + 1 + 1) (w.heap.size + 1) g (shasTo l k) Hp2.out C X (by rw [HC.out]) HXl.out ((Hk.out.below Hbe2.out)) hql (by omega) hgl).mono ?_
        rintro e w4 ⟨rfl, g', hp4, hg4, hu4⟩
        have hS : ∀ b, (b = w.heap.size + 1 ∨ g = some b) → w.heap.size < b := by
          rintro b (rfl | h)
          · omega
          · exact Hg.out b h
        have hbe4 := Hbe2.out.upd (Nat.le_refl _) hu4 (fun b h => Nat.le_of_lt (hS b h))
        have hz4 := hu4.at_ Hz2.out (fun h => Nat.lt_irrefl _ (hS _ h))
        have hg4' : ∀ b, g' = some b → w.heap.size < b := fun b hb => by
          rcases hg4 b hb with h | h
          · exact Hg.out b h
          · have := lt_heap Hz2.out; omega
        have hsl4 : Sl w4 1 (.slice a4 (r.length - r.length) (c2 - r.length)) (r.length - r.length) (bytes (r.drop r.length))  := Hsl2.out.kept hu4 (fun b hb hne h => by
          have h1 := Hin.out b (Hob4.out b hb) (by intro e; rw [e] at h0; exact absurd h0 (by simp))
          have h2 := hS b h
          omega)
        have Hp4 := Lib.hid hp4
        have Hsl5 := Lib.hid hsl4
        have Hbe4 := Lib.hid hbe4
        have Hz4 := Lib.hid hz4
        have Hg4 := Lib.hid hg4'
        clear hsl4 hp4 hg4 hu4 hS hbe4 hz4 hg4' hgl hql
        go_wp2
        all_goals
          refine Handed.intro (r.length - r.length) (by omega) ?_
          go_step
          (repeat apply Exists.intro)
          refine ⟨?_, rfl⟩
          have hrl2 : (r.drop r.length).length = r.length - r.length := by simp
          refine ⟨k + 1, r.drop r.length, a4, c2 - r.length, g', hrl2.symm, by rw [hrl2]; try simp, ?_, ?_, ?_, ?_, ?_, Hg4.out, Hbe4.out, Hz4.out, ?_⟩
          · rw [List.drop_of_length_le (Nat.le_refl _), List.drop_of_length_le (by have := Hrl.out; omega)]
          · rw [hrl2]; have := Hkl.out; have := Hrl.out; omega
          · rw [hrl2]; exact Hsl5.out
          · rw [hrl2]; omega
          · rw [shasTo_succ, ← Hr.out]
            have h := Hp4.out
            rw [HX.out, Hy.out] at h
            rw [show r.take 512 = r.take r.length by rw [List.take_of_length_le (Nat.le_refl _), List.take_of_length_le (by omega)]]
            exact h
          · rw [hrl2]
            intro b hb hne
            exact Hin.out b (Hob4.out b hb) (by intro e; rw [e] at h0; exact absurd h0 (by simp))

    · have hr0 : r = [] := List.eq_nil_of_length_eq_zero (by omega)
      have hkc : shasTo l k = shasTo l (pieceCount l.length) := by
        have h1 := Hkl.out
        have h2 := Hrl.out
        have h3 : k = pieceCount l.length := by unfold pieceCount; omega
        rw [← h3]
      have hp := Hp.out
      rw [hkc] at hp
      have Hp5 := Lib.hid hp
      clear hp hkc hr0
      go_wp2_with fail
      refine (piecesSum_any wr (w.heap.size + 1 + 1) (w.heap.size + 1) g _ Hp5.out (Hk.out.below Hbe.out) (by rw [shasTo_length]; unfold pieceCount; omega)).mono ?_
      rintro e w5 ⟨rfl, hb5⟩
      have hz5 := (hb5.block _ (lt_heap Hz.out)).trans Hz.out
      obtain ⟨C, hC⟩ : ∃ C, C = (bytes (sha (shasTo l (pieceCount l.length)))).toArray := ⟨_, rfl⟩
      have hCs : C.size = 32 := by rw [hC]; simp [bytes_length, sha_length]
      have hCo : C.all (·.oneCell') = true := by rw [hC, Array.all_eq_true_iff_forall_mem]; intro u hu; exact bytes_one _ u (by simpa using hu)
      have hZs : Z.size = 32 := by rw [HZ.out]; simp
      rw [← hC]
      have HC := Lib.hid hC
      have HCs := Lib.hid hCs
      have HCo := Lib.hid hCo
      have HZs := Lib.hid hZs
      have Hz5 := Lib.hid hz5
      have Hb5 := Lib.hid hb5
      clear hC hCs hCo hZs hz5 hb5
      go_wp2_with (refine wpList_store_row rfl 26 (.tmp 2) (.tmp 23) rfl w.heap.size C rfl rfl 26 Z Hz5.out (by rw [HCs.out]; kernel_rfl) (by rw [HCs.out, HZs.out]) HCo.out ?_)
      have hset := setRow_heap w5 w.heap.size Z C 26 (0, 0) Hz5.out
      refine bodyPost_ret (results_cell_row (P := Tryd.prog) Tryd.results29 _ _ w.heap.size 26 C (0, 0) _ rfl hset Tryd.underlying26 rfl (by rw [HCs.out]; kernel_rfl)) rfl ⟨?_, ?_⟩
      · rw [HC.out]; rfl
      · exact below_setRow (Hbe.out.upd (Nat.le_refl _) (Upd.below Hb5.out (fun _ => False)) (fun _ h => h.elim)) (Nat.le_refl _) C
end Go.Proofs.YtefobboakikpbaaDoor
