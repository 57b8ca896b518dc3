/- The law SumFinds, walked. -/
import Derived.Test.YtefobboakikpbaaFind6
import Derived.Test.YtefobboakikpbaaRollLaw
namespace Go.Proofs.Ytefobboakikpbaa
open Go.RowKit Go.Shelf Go.Maps
set_option linter.unusedVariables false
set_option linter.unusedSimpArgs false

set_option maxRecDepth 100000 in
theorem findsEarly_any (w : World) (a0 a1 : Option Addr) (n0 c0 n1 c1 : Nat) (h0m : n0 ≤ 9223372036854775807) (h1m : n1 ≤ 9223372036854775807) (h : 20000 < n0 ∨ 20000 < n1) :
    Calls Try.prog 4 #[.slice a0 n0 c0, .slice a1 n1 c1] w fun e w' => e = .returned (.bool true) ∧ Below w.heap.size w w' := by
  by_cases h1 : 20000 < n0
  · clear h
    go_enter Try.func4, Try.ntmps4
    go_wp2
    go_ret
    exact ⟨rfl, Below.refl _ _⟩
  · have h2 : 20000 < n1 := by omega
    clear h
    go_enter Try.func4, Try.ntmps4
    go_wp2
    go_ret
    exact ⟨rfl, Below.refl _ _⟩

/-- Some of the bytes turned on by one. -/
def bump (l : List UInt8) (k : Nat) : List UInt8 := (l.take k).map (· + 1) ++ l.drop k
theorem bump_zero (l : List UInt8) : bump l 0 = l := by simp [bump]
theorem bump_length (l : List UInt8) (k : Nat) (h : k ≤ l.length) : (bump l k).length = l.length := by simp [bump]; omega
theorem bump_get (l : List UInt8) (k : Nat) (h : k < l.length) : (bump l k).getD k 0 = l.getD k 0 := by
  rw [List.getD_eq_getElem?_getD, List.getD_eq_getElem?_getD]
  unfold bump
  rw [List.getElem?_append_right (by simp; omega)]
  simp [Nat.min_eq_left (Nat.le_of_lt h)]
theorem bump_set (l : List UInt8) (k : Nat) (h : k < l.length) : (bytes (bump l k)).set k (.int .u8 (((l.getD k 0).toNat + 1 : Int) % 256)) = bytes (bump l (k + 1)) := by
  have e1 : ((l.getD k 0).toNat + 1 : Int) % 256 = ((l.getD k 0 + 1).toNat : Int) := by
    rw [UInt8.toNat_add]; simp
  rw [e1]
  have e2 : (bytes (bump l k)).set k (.int .u8 ((l.getD k 0 + 1).toNat : Int)) = bytes ((bump l k).set k (l.getD k 0 + 1)) := by simp [bytes, List.map_set]
  rw [e2]
  congr 1
  unfold bump
  have hlen : ((l.take k).map (· + 1)).length = k := by simp; omega
  rw [List.set_append_right _ _ (by omega), hlen, Nat.sub_self, List.drop_eq_getElem_cons h, List.set_cons_zero, List.take_succ_eq_append_getElem h, List.map_append, List.getD_eq_getElem?_getD, List.getElem?_eq_getElem h]
  simp

theorem below_on' {w a b : World} (h : Below w.heap.size w a) (k : Below a.heap.size a b) : Below w.heap.size w b := h.trans (k.mono h.size)
/-- The copies, and the three lists of finds. -/
structure FSt (w W : World) (B0 : Nat) (a5 a6 a7 a8 a9 : Option Addr) (c5 c6 c7 c8 c9 n0 n1 : Nat) (l0 l1 : List UInt8) (F : List (Nat × Nat)) : Prop where
  g5 : Own W 5 1 (.slice a5 n0 c5) n0 (bytes l0)
  g6 : Own W 5 1 (.slice a6 n1 c6) n1 (bytes l1)
  g7 : Own W 35 2 (.slice a7 F.length c7) F.length (fcells F)
  g8 : Own W 35 2 (.slice a8 F.length c8) F.length (fcells F)
  g9 : Own W 35 2 (.slice a9 F.length c9) F.length (fcells F)
  low : Below w.heap.size w W
  ord : w.heap.size ≤ B0 ∧ B0 ≤ W.heap.size
  lt5 : ∀ b, (Value.slice a5 n0 c5).ownBlock = some b → b < B0
  lt6 : ∀ b, (Value.slice a6 n1 c6).ownBlock = some b → b < B0
  lt7 : ∀ b, (Value.slice a7 F.length c7).ownBlock = some b → b < B0
  lt8 : ∀ b, (Value.slice a8 F.length c8).ownBlock = some b → b < B0
  lt9 : ∀ b, (Value.slice a9 F.length c9).ownBlock = some b → b < B0
theorem FSt.kept {w W W' : World} {B0 : Nat} {a5 a6 a7 a8 a9 : Option Addr} {c5 c6 c7 c8 c9 n0 n1 : Nat} {l0 l1 : List UInt8} {F : List (Nat × Nat)} (h : FSt w W B0 a5 a6 a7 a8 a9 c5 c6 c7 c8 c9 n0 n1 l0 l1 F) {S : Nat → Prop} (hu : Upd S W W') (hS : ∀ b, S b → B0 ≤ b) :
    FSt w W' B0 a5 a6 a7 a8 a9 c5 c6 c7 c8 c9 n0 n1 l0 l1 F :=
  ⟨h.g5.kept hu (fun b hb hs => by have := hS b hs; have := h.lt5 b hb; omega), h.g6.kept hu (fun b hb hs => by have := hS b hs; have := h.lt6 b hb; omega), h.g7.kept hu (fun b hb hs => by have := hS b hs; have := h.lt7 b hb; omega),
    h.g8.kept hu (fun b hb hs => by have := hS b hs; have := h.lt8 b hb; omega), h.g9.kept hu (fun b hb hs => by have := hS b hs; have := h.lt9 b hb; omega), h.low.upd (Nat.le_refl _) hu (fun b hs => Nat.le_trans h.ord.1 (hS b hs)), ⟨h.ord.1, Nat.le_trans h.ord.2 hu.size⟩, h.lt5, h.lt6, h.lt7, h.lt8, h.lt9⟩
theorem FSt.below {w W W' : World} {B0 : Nat} {a5 a6 a7 a8 a9 : Option Addr} {c5 c6 c7 c8 c9 n0 n1 : Nat} {l0 l1 : List UInt8} {F : List (Nat × Nat)} (h : FSt w W B0 a5 a6 a7 a8 a9 c5 c6 c7 c8 c9 n0 n1 l0 l1 F) (hb : Below W.heap.size W W') :
    FSt w W' B0 a5 a6 a7 a8 a9 c5 c6 c7 c8 c9 n0 n1 l0 l1 F := h.kept (Upd.below hb fun _ => False) (fun _ h => h.elim)

set_option maxHeartbeats 8000000 in
set_option maxRecDepth 100000 in
theorem sumFinds_main (w : World) (a0 a1 : Option Addr) (c0 c1 n0 n1 : Nat) (l0 l1 : List UInt8) (hs0 : Sl w 1 (.slice a0 n0 c0) n0 (bytes l0)) (hs1 : Sl w 1 (.slice a1 n1 c1) n1 (bytes l1))
    (hn0 : l0.length = n0) (hn1 : l1.length = n1) (h1 : n0 ≤ 20000) (h2 : n1 ≤ 20000) (hc0 : n0 ≤ c0) (hc1 : n1 ≤ c1) :
    Calls Try.prog 4 #[.slice a0 n0 c0, .slice a1 n1 c1] w fun e w' => e = .returned (.bool true) ∧ Below w.heap.size w w' := by
  obtain ⟨i0, hi, hz0, hz1, hz2⟩ := info_parts info_byte
  have Hs0 := Lib.hid hs0
  have Hs1 := Lib.hid hs1
  have Hn0 := Lib.hid hn0
  have Hn1 := Lib.hid hn1
  have j0 : decide ((20000 : Int) < (n0 : Int)) = false := decide_eq_false (by omega)
  have j1 : decide ((20000 : Int) < (n1 : Int)) = false := decide_eq_false (by omega)
  clear hs0 hs1 hn0 hn1
  go_enter Try.func4, Try.ntmps4
  go_wp2_with (at_builtin; refine wpList_append_any rfl _ _ 22 rfl 5 i0 (.int .u8 0) 1 1 Try.underlying22 hi hz0 hz1 hz2 rfl (by decide) (.slice none 0 0) 0 [] (.slice a0 n0 c0) n0 (bytes l0) rfl rfl (Own.nil _ _ _) Hs0.out (bytes_one l0) (by omega) (by omega) ?_)
  intro a5 c5 w1 hg5 hgr5 hb5
  have hu1 : Upd (fun _ => False) w w1 := (Upd.refl _ _).grown hgr5 (by simp [Value.ownBlock])
  have hb5' : ∀ k, (Value.slice a5 n0 c5).ownBlock = some k → w.heap.size ≤ k := fun k hk => hb5 k (by simp [Value.ownBlock]) (by simpa using hk)
  have hg5 : Own w1 5 1 (.slice a5 n0 c5) n0 (bytes l0) := by simpa using hg5
  have Hg5 := Lib.hid hg5
  have Hb5 := Lib.hid hb5'
  have Hu1 := Lib.hid hu1
  have hsz1 := hu1.size
  clear hgr5 hb5 hg5 hu1 hb5'
  clear hg5
  go_wp2_with (at_builtin; refine wpList_append_any rfl _ _ 22 rfl 5 i0 (.int .u8 0) 1 1 Try.underlying22 hi hz0 hz1 hz2 rfl (by decide) (.slice none 0 0) 0 [] (.slice a1 n1 c1) n1 (bytes l1) rfl rfl (Own.nil _ _ _) (Hs1.out.kept Hu1.out (fun _ _ _ => id)) (bytes_one l1) (by omega) (by omega) ?_)
  intro a6 c6 w2 hg6 hgr6 hb6
  have hu2 : Upd (fun _ => False) w1 w2 := (Upd.refl _ _).grown hgr6 (by simp [Value.ownBlock])
  have hb6' : ∀ k, (Value.slice a6 n1 c6).ownBlock = some k → w1.heap.size ≤ k := fun k hk => hb6 k (by simp [Value.ownBlock]) (by simpa using hk)
  have hg6 : Own w2 5 1 (.slice a6 n1 c6) n1 (bytes l1) := by simpa using hg6
  have Hg6 := Lib.hid hg6
  have Hb6 := Lib.hid hb6'
  have Hl5 := Lib.hid (fun k (hk : (Value.slice a5 n0 c5).ownBlock = some k) => Hg5.out.lt hk)
  have Hg5 := Lib.hid (Hg5.out.kept hu2 (fun _ _ => id))
  have Hu2 := Lib.hid (Hu1.out.trans hu2)
  have hsz2 := hu2.size
  clear hgr6 hb6 hg6 hu2 hb6' Hu1
  clear hg6
  obtain ⟨F, hF⟩ : ∃ F, F = finds l0 l1 0 := ⟨_, rfl⟩
  have HF := Lib.hid hF
  have HFl : Hid (F.length ≤ 41) := by
    have h := finds_length l0 l1 0
    rw [← hF, Hn1.out] at h
    show F.length ≤ 41
    omega
  have Hc5 := Hg5.out.cap_le
  have Hc6 := Hg6.out.cap_le
  clear hF
  go_wp2_with fail
  refine (refFind_any w2 a0 a1 c0 c1 n0 n1 l0 l1 (Hs0.out.kept Hu2.out (fun _ _ _ => id)) (Hs1.out.kept Hu2.out (fun _ _ _ => id)) Hn0.out Hn1.out h1 h2 hc0 hc1).mono ?_
  rintro e w3 ⟨a7, c7, rfl, hg7, hb3, hn7⟩
  rw [← HF.out] at hg7 hn7 ⊢
  have Hg5 := Lib.hid (Hg5.out.kept (Upd.below hb3 fun _ => False) (fun _ _ => id))
  have Hg6 := Lib.hid (Hg6.out.kept (Upd.below hb3 fun _ => False) (fun _ _ => id))
  have Hb3 := Lib.hid (Hu2.out.trans (Upd.below hb3 fun _ => False))
  have Hg7 := Lib.hid hg7
  have Hn7 := Lib.hid hn7
  have hsz3 := hb3.size
  clear hb3 hg7 hn7
  go_wp2_with fail
  refine (find_any w3 a5 a6 c5 c6 n0 n1 l0 l1 Hg5.out.sl Hg6.out.sl Hn0.out Hn1.out h1 h2 Hc5 Hc6).mono ?_
  rintro e w4 ⟨a8, c8, rfl, hg8, hb4, hn8⟩
  rw [← HF.out] at hg8 hn8 ⊢
  have Hg5 := Lib.hid (Hg5.out.kept (Upd.below hb4 fun _ => False) (fun _ _ => id))
  have Hg6 := Lib.hid (Hg6.out.kept (Upd.below hb4 fun _ => False) (fun _ _ => id))
  have Hb4 := Lib.hid (Hb3.out.trans (Upd.below hb4 fun _ => False))
  have Hl7 := Lib.hid (fun k (hk : (Value.slice a7 F.length c7).ownBlock = some k) => Hg7.out.lt hk)
  have Hg7 := Lib.hid (Hg7.out.kept (Upd.below hb4 fun _ => False) (fun _ _ => id))
  have Hg8 := Lib.hid hg8
  have Hn8 := Lib.hid hn8
  have hsz4 := hb4.size
  clear hb4 hg8 hn8
  go_wp2_with fail
  refine (find_any w4 a5 a6 c5 c6 n0 n1 l0 l1 Hg5.out.sl Hg6.out.sl Hn0.out Hn1.out h1 h2 Hc5 Hc6).mono ?_
  rintro e w5 ⟨a9, c9, rfl, hg9, hb5, hn9⟩
  rw [← HF.out] at hg9 hn9 ⊢
  have Hg5 := Lib.hid (Hg5.out.kept (Upd.below hb5 fun _ => False) (fun _ _ => id))
  have Hg6 := Lib.hid (Hg6.out.kept (Upd.below hb5 fun _ => False) (fun _ _ => id))
  have Hb5w := Lib.hid (Hb4.out.trans (Upd.below hb5 fun _ => False))
  have Hg7 := Lib.hid (Hg7.out.kept (Upd.below hb5 fun _ => False) (fun _ _ => id))
  have Hl8 := Lib.hid (fun k (hk : (Value.slice a8 F.length c8).ownBlock = some k) => Hg8.out.lt hk)
  have Hg8 := Lib.hid (Hg8.out.kept (Upd.below hb5 fun _ => False) (fun _ _ => id))
  have Hg9 := Lib.hid hg9
  have Hn9 := Lib.hid hn9
  have hsz5 := hb5.size
  clear hb5 hg9 hn9 Hb3 Hb4 Hu2
  have HS : Hid (FSt w w5 w5.heap.size a5 a6 a7 a8 a9 c5 c6 c7 c8 c9 n0 n1 l0 l1 F) := ⟨Hg5.out, Hg6.out, Hg7.out, Hg8.out, Hg9.out, Hb5w.out.toBelow (fun _ h => h.elim) (Nat.le_refl _), ⟨Hb5w.out.size, Nat.le_refl _⟩, fun b hb => Hg5.out.lt hb, fun b hb => Hg6.out.lt hb, fun b hb => Hg7.out.lt hb, fun b hb => Hg8.out.lt hb, fun b hb => Hg9.out.lt hb⟩
  clear Hg5 Hg6 Hg7 Hg8 Hg9 Hb5w
  have Hq1 := Lib.hid (sameFound_any w5 a8 a7 c8 c7 F.length F.length F F HS.out.g8.sl HS.out.g7.sl rfl rfl)
  rw [decide_eq_true rfl] at Hq1
  go_wp2_with fail
  refine Hq1.out.mono ?_
  rintro e w6 ⟨rfl, hb6⟩
  have HS6 := Lib.hid (HS.out.below hb6)
  have Hq2 := Lib.hid (sameFound_any w6 a9 a7 c9 c7 F.length F.length F F HS6.out.g9.sl HS6.out.g7.sl rfl rfl)
  rw [decide_eq_true rfl] at Hq2
  clear hb6 Hq1 HS
  go_wp2_with fail
  refine Hq2.out.mono ?_
  rintro e w7 ⟨rfl, hb7⟩
  have HS7 := Lib.hid (HS6.out.below hb7)
  have Hq3 := Lib.hid (same_any w7 a5 a0 c5 c0 n0 n0 l0 l0 HS7.out.g5.sl (Hs0.out.below HS7.out.low) Hn0.out Hn0.out)
  rw [decide_eq_true rfl] at Hq3
  clear hb7 Hq2 HS6
  go_wp2_with fail
  refine Hq3.out.mono ?_
  rintro e w8 ⟨rfl, hb8⟩
  have HS8 := Lib.hid (HS7.out.below hb8)
  have Hq4 := Lib.hid (same_any w8 a6 a1 c6 c1 n1 n1 l1 l1 HS8.out.g6.sl (Hs1.out.below HS8.out.low) Hn1.out Hn1.out)
  rw [decide_eq_true rfl] at Hq4
  clear hb8 Hq3 HS7
  go_wp2_with fail
  refine Hq4.out.mono ?_
  rintro e w9 ⟨rfl, hb9⟩
  have HS9 := Lib.hid (HS8.out.below hb9)
  clear hb9 Hq4 HS8
  go_wp2_with fail
  go_loopw [10, 11, 12] (fun v10 v11 v12 wr => ∃ (i p q : Nat) (a11 : Option Addr) (c11 : Nat), i ≤ F.length ∧ p ≤ n1 ∧ p ≤ q ∧ v10 = .int .i64 p ∧ v11 = .slice a11 p c11 ∧ v12 = .int .i64 i ∧ F.drop i = finds l0 l1 q ∧ Own wr 5 1 (.slice a11 p c11) p (bytes (l1.take p)) ∧ FSt w wr w5.heap.size a5 a6 a7 a8 a9 c5 c6 c7 c8 c9 n0 n1 l0 l1 F ∧ (∀ b, (Value.slice a11 p c11).ownBlock = some b → w5.heap.size ≤ b))
    (fun _ _ i _ => F.length - (intOf i).toNat)
  case atStart => exact ⟨0, 0, 0, none, 0, Nat.zero_le _, Nat.zero_le _, Nat.le_refl _, rfl, rfl, rfl, by rw [HF.out]; rfl, Own.nil _ _ _, HS9.out, fun b hb => by simp [Value.ownBlock] at hb⟩
  case round =>
    clear HS9
    obtain ⟨i, p, q, a11, c11, hiF, hp, hpq, rfl, rfl, rfl, hdrop, hown, hst, hnew⟩ := hrel
    have Hown := Lib.hid hown
    have Hst := Lib.hid hst
    have Hnew := Lib.hid hnew
    have Hdrop := Lib.hid hdrop
    clear hown hst hnew hdrop
    have hF41 : F.length ≤ 41 := HFl.out
    by_cases hlt : i < F.length
    · have hcons := List.drop_eq_getElem_cons hlt
      rw [Hdrop.out] at hcons
      obtain ⟨hf1, hf2, hf3, hf4, hf5⟩ := finds_head (p := F[i].1) (k := F[i].2) hcons
      obtain ⟨g8, o8, rfl, _, hcl⟩ := Hst.out.g8.sl.open_ (by rw [fcells_length]; omega)
      have fa := hcl _ _ (fcells_get F i hlt).1
      have fb := hcl _ _ (fcells_get F i hlt).2
      obtain ⟨pp, hpp⟩ : ∃ pp, pp = F[i].1 := ⟨_, rfl⟩
      obtain ⟨kk, hkk⟩ : ∃ kk, kk = F[i].2 := ⟨_, rfl⟩
      rw [← hpp] at hf1 hf2 hf4 hf5 fa
      rw [← hkk] at hf3 hf4 fb
      rw [← Nat.add_assoc] at fb
      rw [Hn1.out] at hf2
      rw [Hn0.out] at hf3
      have Hf4 := Lib.hid hf4
      have Hf5 := Lib.hid (show F.drop (i + 1) = finds l0 l1 (pp + 512) from hf5)
      have i1 : (0 : Int) ≤ (i : Int) := by omega
      have i2 : (i : Int) < (F.length : Int) := by omega
      have k1 : ¬ (pp : Int) < (p : Int) := by omega
      have k2 : ¬ (kk : Int) < 0 := by omega
      have k3 : ¬ (n0 : Int) < ((kk : Int) + 1) * 512 := by omega
      have k4 : ¬ (n1 : Int) < (pp : Int) + 512 := by omega
      clear hcl hcons hf4 hf5 hpp hkk
      have hszb : ∀ w, (sizeOf (Try.prog.elem 22)).run Try.prog w = .ok 1 w := fun _ => by kernel_rfl
      obtain ⟨ab, hcb, _, _, hsb, _⟩ := (Hs1.out.below Hst.out.low).cut Try.underlying22 hszb p pp (by omega) (by omega) hc1
      obtain ⟨dl, hdl⟩ : ∃ dl, dl = pp - p := ⟨_, rfl⟩
      obtain ⟨cb, hcbe⟩ : ∃ cb, cb = c1 - p := ⟨_, rfl⟩
      rw [← hdl, ← hcbe] at hcb hsb
      have q1 := fun w => hcb w (p : Int) (pp : Int) rfl rfl
      have hpd : p + dl = pp := by omega
      have hsb2 : Sl wr 1 (.slice ab dl cb) dl (bytes ((l1.drop p).take dl)) := by
        have e : (((bytes l1).drop (p * 1)).take (dl * 1)) = bytes ((l1.drop p).take dl) := by simp [bytes, List.map_drop, List.map_take]
        rw [e] at hsb; exact hsb
      have Hsb := Lib.hid hsb2
      have Hg8 := Lib.hid (fun h => by have := Hst.out.lt8 g8 rfl; have := Hnew.out g8 h; omega)
      have r1 : (p : Int) ≤ (pp : Int) := by omega
      have r2 : (pp : Int) ≤ (n1 : Int) := by omega
      have r3 : (pp : Int) ≤ (c1 : Int) := by omega
      clear hcb hsb hsb2 hszb hcbe hdl
      go_wp2_with (at_builtin; refine wpList_append_any rfl _ _ 22 rfl 5 i0 (.int .u8 0) 1 1 Try.underlying22 hi hz0 hz1 hz2 rfl (by decide) (.slice a11 p c11) p (bytes (l1.take p)) (.slice ab dl cb) dl (bytes ((l1.drop p).take dl)) rfl rfl Hown.out Hsb.out (bytes_one _) (by omega) (by omega) ?_)
      intro a12 c12 w12 hg12 hgr12 hb12
      have hu12 : Upd (fun b => w5.heap.size ≤ b) wr w12 := (Upd.refl _ _).grown hgr12 (fun g hg _ => Hnew.out g hg)
      have hw5 := Hst.out.ord.2
      have hn12 : ∀ b, (Value.slice a12 pp c12).ownBlock = some b → w5.heap.size ≤ b := by
        intro b hb
        by_cases h : (Value.slice a11 p c11).ownBlock = some b
        · exact Hnew.out b h
        · exact Nat.le_trans hw5 (hb12 b h hb)
      have hl12 : bytes (l1.take p) ++ bytes ((l1.drop p).take dl) = bytes (l1.take pp) := by
        rw [← bytes_append, ← List.take_add, hpd]
      rw [hl12] at hg12
      have fa12 := hu12.cell fa (fun h => by have h : w5.heap.size ≤ g8 := h; have := Hst.out.lt8 g8 rfl; omega)
      have fb12 := hu12.cell fb (fun h => by have h : w5.heap.size ≤ g8 := h; have := Hst.out.lt8 g8 rfl; omega)
      have Hst12 := Lib.hid (Hst.out.kept hu12 (fun _ h => h))
      have Hg12 := Lib.hid hg12
      have Hn12 := Lib.hid hn12
      have hw12 := hu12.size
      obtain ⟨ak, ck, hck, hsk, _, _⟩ := cut_at w12 a0 n0 c0 l0 (Hs0.out.below Hst12.out.low) hc0 (512 * kk) (by omega)
      have q2 := fun w => hck w ((kk : Int) * 512) (((kk : Int) + 1) * 512) (by omega) (by omega)
      have Hsk := Lib.hid (show Sl w12 1 (.slice ak 512 ck) 512 (bytes (pieceAt l0 kk)) from hsk)
      have v1 := wrap_in ((kk : Int) + 1) (by omega) (by omega)
      have v2 := wrap_in (((kk : Int) + 1) * 512) (by omega) (by omega)
      have v3 := wrap_in ((kk : Int) * 512) (by omega) (by omega)
      clear hgr12 hb12 hl12 hg12 hn12 hck hsk fa fb hu12 q1 Hown Hst Hnew Hsb Hg8
      go_wp2_with fail
      go_still_tail 16, (by kernel_rfl)
      change wpList _ _ _ _ _ w12.drew
      go_wp2_with (at_builtin; refine wpList_append_any rfl _ _ 22 rfl 5 i0 (.int .u8 0) 1 1 Try.underlying22 hi hz0 hz1 hz2 rfl (by decide) (.slice a12 pp c12) pp (bytes (l1.take pp)) (.slice ak 512 ck) 512 (bytes (pieceAt l0 kk)) rfl rfl (Hg12.out.kept (Upd.refl (fun _ => False) w12).drew (fun _ _ => id)) (Hsk.out.kept (Upd.refl (fun _ => False) w12).drew (fun _ _ _ => id)) (bytes_one _) (by omega) (by omega) ?_)
      intro a13 c13 w13 hg13 hgr13 hb13
      have hu13 : Upd (fun b => w5.heap.size ≤ b) w12 w13 := ((Upd.refl _ _).drew).grown hgr13 (fun g hg _ => Hn12.out g hg)
      have hn13 : ∀ b, (Value.slice a13 (pp + 512) c13).ownBlock = some b → w5.heap.size ≤ b := by
        intro b hb
        by_cases h : (Value.slice a12 pp c12).ownBlock = some b
        · exact Hn12.out b h
        · have h2 : w12.heap.size ≤ b := hb13 b h hb
          omega
      have hl13 : bytes (l1.take pp) ++ bytes (pieceAt l0 kk) = bytes (l1.take (pp + 512)) := by
        rw [Hf4.out, ← bytes_append]
        congr 1
        exact (List.take_add (l := l1) (i := pp) (j := 512)).symm
      rw [hl13] at hg13
      have fa13 := hu13.cell fa12 (fun h => by have h : w5.heap.size ≤ g8 := h; have := Hst12.out.lt8 g8 rfl; omega)
      have Hst13 := Lib.hid (Hst12.out.kept hu13 (fun _ h => h))
      have Hg13 := Lib.hid hg13
      have Hn13 := Lib.hid hn13
      clear hgr13 hb13 hl13 hg13 hn13 hu13 fa12 fb12 q2
      go_wp2_with fail
      go_roundw
      case rel => exact ⟨i + 1, pp + 512, pp + 512, a13, c13, hlt, by omega, Nat.le_refl _, by go_num, rfl, by go_num, Hf5.out, Hg13.out, Hst13.out, Hn13.out⟩
      case measure => simp [intOf]; omega
    · obtain rfl : i = F.length := by omega
      clear hlt
      have hszb : ∀ w, (sizeOf (Try.prog.elem 22)).run Try.prog w = .ok 1 w := fun _ => by kernel_rfl
      obtain ⟨ab, _, hcb, _, hsb, _⟩ := (Hs1.out.below Hst.out.low).cut Try.underlying22 hszb p n1 hp (Nat.le_refl _) hc1
      obtain ⟨dl, hdl⟩ : ∃ dl, dl = n1 - p := ⟨_, rfl⟩
      obtain ⟨cb, hcbe⟩ : ∃ cb, cb = c1 - p := ⟨_, rfl⟩
      rw [← hdl, ← hcbe] at hcb hsb
      have q1 := fun w => hcb w (p : Int) rfl rfl
      have hpd : p + dl = n1 := by omega
      have hsb2 : Sl wr 1 (.slice ab dl cb) dl (bytes (l1.drop p)) := by
        have e : (((bytes l1).drop (p * 1)).take (dl * 1)) = bytes (l1.drop p) := by
          have := Hn1.out
          rw [Nat.mul_one, Nat.mul_one, List.take_of_length_le (by rw [List.length_drop, bytes_length]; omega)]
          simp [bytes, List.map_drop]
        rw [e] at hsb; exact hsb
      have Hsb := Lib.hid hsb2
      have r1 : (p : Int) ≤ (n1 : Int) := by omega
      have r3 : (n1 : Int) ≤ (c1 : Int) := by omega
      clear hcb hsb hsb2 hszb hcbe hdl Hdrop hpq
      go_wp2_with (at_builtin; refine wpList_append_any rfl _ _ 22 rfl 5 i0 (.int .u8 0) 1 1 Try.underlying22 hi hz0 hz1 hz2 rfl (by decide) (.slice a11 p c11) p (bytes (l1.take p)) (.slice ab dl cb) dl (bytes (l1.drop p)) rfl rfl Hown.out Hsb.out (bytes_one _) (by omega) (by omega) ?_)
      intro a12 c12 w12 hg12 hgr12 hb12
      have hu12 : Upd (fun b => w5.heap.size ≤ b) wr w12 := (Upd.refl _ _).grown hgr12 (fun g hg _ => Hnew.out g hg)
      have hw5 := Hst.out.ord.2
      have hl12 : bytes (l1.take p) ++ bytes (l1.drop p) = bytes l1 := by
        rw [← bytes_append, List.take_append_drop]
      rw [hl12] at hg12
      have hn12 : ∀ b, (Value.slice a12 n1 c12).ownBlock = some b → w5.heap.size ≤ b := by
        intro b hb
        by_cases h : (Value.slice a11 p c11).ownBlock = some b
        · exact Hnew.out b h
        · exact Nat.le_trans hw5 (hb12 b h hb)
      have Hst12 := Lib.hid (Hst.out.kept hu12 (fun _ h => h))
      have Hg12 := Lib.hid (show Own w12 5 1 (.slice a12 n1 c12) n1 (bytes l1) from hg12)
      have Hn12 := Lib.hid hn12
      clear hgr12 hb12 hl12 hg12 hn12 hu12 q1 Hown Hst Hnew Hsb
      go_wp2_with fail
      go_loopw [13] (fun v wq => ∃ (i : Nat) (xs : List Value), i ≤ F.length ∧ v = .int .i64 i ∧ Own wq 35 2 (.slice a8 F.length c8) F.length xs ∧ Upd (fun b => (Value.slice a8 F.length c8).ownBlock = some b) w12 wq) (fun v _ => F.length - (intOf v).toNat)
      case atStart => exact ⟨0, fcells F, Nat.zero_le _, rfl, Hst12.out.g8, Upd.refl _ _⟩
      case round =>
        rename World => wq
        obtain ⟨i, xs, hi8, rfl, hown8, hu8⟩ := hrel
        by_cases hlt : i < F.length
        · have hxl := hown8.1
          have hne : xs ≠ [] := ne_nil_of_length (by rw [hxl]; omega)
          obtain ⟨g8, o8, cap, cur, hv, _, _, _, hcell, hfz⟩ := hown8.cells hne
          injection hv with hv1 _ hv3
          subst hv1 hv3
          obtain ⟨u0, hu0⟩ : ∃ u0, xs[i * 2]? = some u0 := ⟨_, List.getElem?_eq_getElem (by rw [hxl]; omega)⟩
          obtain ⟨u1, hu1⟩ : ∃ u1, xs[i * 2 + 1]? = some u1 := ⟨_, List.getElem?_eq_getElem (by rw [hxl]; omega)⟩
          have f0 := hcell _ _ hu0
          have f1 := hcell _ _ hu1
          rw [← Nat.add_assoc] at f1
          have z0 := hfz (o8 + i * 2)
          have z1 := hfz (o8 + i * 2 + 1)
          have ho1 := hown8.set (i * 2) (.int .i64 (-1)) (by omega)
          have ho2 := ho1.set (i * 2 + 1) (.int .i64 (-1)) (by omega)
          rw [← Nat.add_assoc] at ho2
          have Ho2 := Lib.hid ho2
          have Hu8 := Lib.hid ((hu8.setCell ⟨g8, o8 + i * 2, none⟩ (.int .i64 (-1)) (fun _ => rfl)).setCell ⟨g8, o8 + i * 2 + 1, none⟩ (.int .i64 (-1)) (fun _ => rfl))
          have i1 : (0 : Int) ≤ (i : Int) := by omega
          have i2 : (i : Int) < (F.length : Int) := by omega
          clear hcell hfz hne hown8 ho1 ho2 hu8 hxl hu0 hu1
          go_wp2
          go_roundw
          case rel => exact ⟨i + 1, _, hlt, by go_num, Ho2.out, Hu8.out⟩
          case measure => simp [intOf]; omega
        · obtain rfl : i = F.length := by omega
          have Hu8 := Lib.hid hu8
          have a85 : Hid (∀ b, (Value.slice a8 F.length c8).ownBlock = some b → w1.heap.size ≤ b ∧ b < w4.heap.size ∧ w3.heap.size ≤ b) := fun b hb => by
            have := Hn8.out b hb
            have := Hl8.out b hb
            exact ⟨by omega, by omega, by omega⟩
          have Hq12 := Lib.hid (Hg12.out.kept hu8 (fun b hb h => by have := Hn12.out b hb; have := a85.out b h; omega))
          have Hg5q := Lib.hid (Hst12.out.g5.kept hu8 (fun b hb h => by have := Hl5.out b hb; have := a85.out b h; omega))
          have Hg6q := Lib.hid (Hst12.out.g6.kept hu8 (Own.parted Hst12.out.g6 Hst12.out.g8 (by decide)))
          have Hg7q := Lib.hid (Hst12.out.g7.kept hu8 (fun b hb h => by have := Hl7.out b hb; have := a85.out b h; omega))
          have Hg9q := Lib.hid (Hst12.out.g9.kept hu8 (fun b hb h => by have := Hn9.out b hb; have := a85.out b h; omega))
          have Hbq := Lib.hid (Hst12.out.low.upd (Nat.le_refl _) hu8 (fun b h => by have := a85.out b h; omega))
          have hszq := Hbq.out.size
          have Hq5 := Lib.hid (same_any wq a12 a1 c12 c1 n1 n1 l1 l1 Hq12.out.sl (Hs1.out.below Hbq.out) Hn1.out Hn1.out)
          rw [decide_eq_true rfl] at Hq5
          clear hown8 hu8 hlt Hst12
          go_wp2_with fail
          refine Hq5.out.mono ?_
          rintro e w14 ⟨rfl, hb14⟩
          have Hq6 := Lib.hid (sameFound_any w14 a9 a7 c9 c7 F.length F.length F F (Hg9q.out.kept (Upd.below hb14 fun _ => False) (fun _ _ => id)).sl (Hg7q.out.kept (Upd.below hb14 fun _ => False) (fun _ _ => id)).sl rfl rfl)
          rw [decide_eq_true rfl] at Hq6
          have Hg5q := Lib.hid (Hg5q.out.kept (Upd.below hb14 fun _ => False) (fun _ _ => id))
          have Hg6q := Lib.hid (Hg6q.out.kept (Upd.below hb14 fun _ => False) (fun _ _ => id))
          have Hbq := Lib.hid (below_on' Hbq.out hb14)
          clear Hq5 hb14
          go_wp2_with fail
          refine Hq6.out.mono ?_
          rintro e w15 ⟨rfl, hb15⟩
          have Hg5q := Lib.hid (Hg5q.out.kept (Upd.below hb15 fun _ => False) (fun _ _ => id))
          have Hg6q := Lib.hid (Hg6q.out.kept (Upd.below hb15 fun _ => False) (fun _ _ => id))
          have Hbq := Lib.hid (below_on' Hbq.out hb15)
          have hsz15 := Hbq.out.size
          clear Hq6 hb15
          go_wp2_with fail
          go_loopw [14] (fun v wq => ∃ i : Nat, i ≤ n1 ∧ v = .int .i64 i ∧ Own wq 5 1 (.slice a6 n1 c6) n1 (bytes (bump l1 i)) ∧ Upd (fun b => (Value.slice a6 n1 c6).ownBlock = some b) w15 wq) (fun v _ => n1 - (intOf v).toNat)
          case atStart => exact ⟨0, Nat.zero_le _, rfl, by rw [bump_zero]; exact Hg6q.out, Upd.refl _ _⟩
          case round =>
            rename World => wp
            clear hi8
            obtain ⟨i, hi6, rfl, hown6, hu6⟩ := hrel
            by_cases hlt : i < n1
            · have hl1 := Hn1.out
              have hbl := bump_length l1 i (by omega)
              have hne : bytes (bump l1 i) ≠ [] := ne_nil_of_length (by rw [bytes_length]; omega)
              obtain ⟨g6, o6, cap, cur, hv, _, _, _, hcell, hfz⟩ := hown6.cells hne
              injection hv with hv1 _ hv3
              subst hv1 hv3
              have f0 := hcell i _ (bytes_getD (bump l1 i) i (by omega))
              rw [bump_get l1 i (by omega)] at f0
              have z0 := hfz (o6 + i)
              obtain ⟨x, hx⟩ : ∃ x, x = l1.getD i 0 := ⟨_, rfl⟩
              have ho := hown6.set i (.int .u8 (((l1.getD i 0).toNat + 1 : Int) % 256)) (by omega)
              rw [bump_set l1 i (by omega)] at ho
              have Ho := Lib.hid ho
              have Hu6 := Lib.hid (hu6.setCell ⟨g6, o6 + i, none⟩ (.int .u8 (((l1.getD i 0).toNat + 1 : Int) % 256)) (fun _ => rfl))
              rw [← hx] at f0 Ho Hu6
              have i1 : (0 : Int) ≤ (i : Int) := by omega
              have i2 : (i : Int) < (n1 : Int) := by omega
              clear hcell hfz hne hown6 ho hu6 hx hl1 hbl
              go_wp2
              go_roundw
              case rel => exact ⟨i + 1, hlt, by go_num, Ho.out, Hu6.out⟩
              case measure => simp [intOf]; omega
            · obtain rfl : i = n1 := by omega
              have Hown6 := Lib.hid hown6
              have Hg5q := Lib.hid (Hg5q.out.kept hu6 (fun b hb h => by have := Hl5.out b hb; have := Hb6.out b h; omega))
              have Hbq := Lib.hid (Hbq.out.upd (Nat.le_refl _) hu6 (fun b h => by have := Hb6.out b h; omega))
              obtain ⟨l2, hl2⟩ : ∃ l2, l2 = bump l1 i := ⟨_, rfl⟩
              have hl2l : l2.length = i := by rw [hl2, bump_length l1 i (by rw [Hn1.out]; omega), Hn1.out]
              have Hl2l := Lib.hid hl2l
              rw [← hl2] at Hown6
              obtain ⟨F2, hF2⟩ : ∃ F2, F2 = finds l0 l2 0 := ⟨_, rfl⟩
              have HF2 := Lib.hid hF2
              clear hown6 hu6 hlt hl2 hl2l hF2
              go_wp2_with fail
              refine (find_any wp a5 a6 c5 c6 n0 i l0 l2 Hg5q.out.sl Hown6.out.sl Hn0.out Hl2l.out h1 h2 Hc5 Hc6).mono ?_
              rintro e w16 ⟨a16, c16, rfl, hg16, hb16, hn16⟩
              rw [← HF2.out] at hg16 ⊢
              have Hg5q := Lib.hid (Hg5q.out.kept (Upd.below hb16 fun _ => False) (fun _ _ => id))
              have Hown6 := Lib.hid (Hown6.out.kept (Upd.below hb16 fun _ => False) (fun _ _ => id))
              have Hbq := Lib.hid (below_on' Hbq.out hb16)
              have Hg16 := Lib.hid hg16
              clear hg16 hb16 hn16
              go_wp2_with fail
              refine (refFind_any w16 a5 a6 c5 c6 n0 i l0 l2 Hg5q.out.sl Hown6.out.sl Hn0.out Hl2l.out h1 h2 Hc5 Hc6).mono ?_
              rintro e w17 ⟨a17, c17, rfl, hg17, hb17, hn17⟩
              rw [← HF2.out] at hg17 ⊢
              have Hq7 := Lib.hid (sameFound_any w17 a16 a17 c16 c17 F2.length F2.length F2 F2 (Hg16.out.kept (Upd.below hb17 fun _ => False) (fun _ _ => id)).sl hg17.sl rfl rfl)
              rw [decide_eq_true rfl] at Hq7
              have Hbq := Lib.hid (below_on' Hbq.out hb17)
              clear hg17 hb17 hn17
              go_wp2_with fail
              refine Hq7.out.mono ?_
              rintro e w18 ⟨rfl, hb18⟩
              have Hbq := Lib.hid (below_on' Hbq.out hb18)
              clear hb18
              go_wp2
              go_ret
              exact ⟨rfl, Hbq.out⟩
end Go.Proofs.Ytefobboakikpbaa
