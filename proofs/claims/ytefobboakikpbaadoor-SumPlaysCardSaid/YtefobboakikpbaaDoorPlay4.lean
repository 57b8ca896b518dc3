/- A side of the script of plays: bytes are added. -/
import Derived.Test.YtefobboakikpbaaDoorPlay3
namespace Go.Proofs.YtefobboakikpbaaDoor
open Go.RowKit
set_option linter.unusedVariables false
set_option linter.unusedSimpArgs false
/-- A room with one list in it, all of whose blocks are not below B. -/
def RoomB (w : World) (B p : Nat) (ab aa : Option Addr) (cb ca : Nat) (af : Option Addr) (cf n N : Nat) (l : List UInt8) : Prop :=
  (RoomAt w p (.slice ab 1 cb) (.slice aa 1 ca) (.slice none 0 0) (.slice none 0 0) ∧ Own w 24 1 (.slice ab 1 cb) 1 [.slice af N cf] ∧ Own w 3 1 (.slice aa 1 ca) 1 [.int .i64 (n : Nat)] ∧ Own w 5 1 (.slice af N cf) N (bytes (l ++ marks 600))) ∧
  B ≤ p ∧ (∀ k, (Value.slice ab 1 cb).ownBlock = some k → B ≤ k) ∧ (∀ k, (Value.slice aa 1 ca).ownBlock = some k → B ≤ k) ∧ (∀ k, (Value.slice af N cf).ownBlock = some k → B ≤ k)
theorem RoomB.kept {S : Nat → Prop} {w w' : World} {B p : Nat} {ab aa : Option Addr} {cb ca : Nat} {af : Option Addr} {cf n N : Nat} {l : List UInt8} (h : RoomB w B p ab aa cb ca af cf n N l) (hu : Upd S w w') (hS : ∀ k, S k → k < B) : RoomB w' B p ab aa cb ca af cf n N l := by
  obtain ⟨⟨h1, h2, h3, h4⟩, g1, g2, g3, g4⟩ := h
  exact ⟨⟨hu.at_ h1 (fun h => by have := hS _ h; omega), h2.kept hu (fun k hk h => by have := hS _ h; have := g2 _ hk; omega), h3.kept hu (fun k hk h => by have := hS _ h; have := g3 _ hk; omega), h4.kept hu (fun k hk h => by have := hS _ h; have := g4 _ hk; omega)⟩, g1, g2, g3, g4⟩
theorem RoomB.in_ {w : World} {B p : Nat} {ab aa : Option Addr} {cb ca : Nat} {af : Option Addr} {cf n N : Nat} {l : List UInt8} (h : RoomB w B p ab aa cb ca af cf n N l) (hl : l.length = n) (hN : n ≤ N) : Sl w 1 (.slice af n N) n (bytes l) := by
  have hin := (h.1.2.2.2.sl.to (show n ≤ N by omega)).recap N
  rw [← hl, List.take_left] at hin
  rwa [← hl]
theorem RoomB.holds {w : World} {B p : Nat} {ab aa : Option Addr} {cb ca : Nat} {af : Option Addr} {cf n N : Nat} {l : List UInt8} (h : RoomB w B p ab aa cb ca af cf n N l) (hl : l.length = n) (hN : N = n + 600) (hn : n ≤ 40000) : HoldsB w [.slice af N cf] [.int .i64 (n : Nat)] 1 := by
  intro i hi1
  have h0 : i = 0 := by omega
  subst h0
  refine ⟨af, cf, n, N, l ++ marks 600, rfl, rfl, by omega, by omega, h.1.2.2.2.sl, by rw [List.length_append, hl, marks_length, hN], fun q h1 h2 => ?_⟩
  rw [List.getD_eq_getElem?_getD, List.getElem?_append_right (by rw [hl]; exact h1), hl]
  simp [marks, List.getElem?_range (show q - n < 600 by omega)]
theorem add_at (w : World) (p : Nat) (g : Option Nat) (l : List UInt8) (h : HashAt w p g l) (av : Option Addr) (cv n : Nat) (x : List UInt8) (hx : Sl w 1 (.slice av n cv) n (bytes x)) (hn : x.length = n) (hk : KeysAt w)
    (hlen : l.length + n ≤ 70368744177664) (hp : 2 ≠ p) (hg : g ≠ some 2) :
    Calls Tryd.prog 12 #[.pointer (some ⟨p, 0, none⟩), .slice av n cv] w fun e w' => e = .returned (.tuple #[]) ∧
      ∃ g', HashAt w' p g' (l ++ x) ∧ (∀ k, g' = some k → g = some k ∨ w.heap.size ≤ k) ∧ Upd (fun k => k = p ∨ g = some k) w w' := by
  subst hn
  exact add_any w p g l h av cv x hx hk hlen hp hg
set_option maxHeartbeats 1000000 in
set_option maxRecDepth 100000 in
theorem plays1 (w : World) (s : Nat) (lh lp : List UInt8) (F : Nat → Prop) (h : SideAt w s lh lp F) (which : Int) (a : Option Addr) (c n : Nat) (pc : List UInt8) (C : Array Value) (hC : OpC C 1 which a n c pc) (hk : KeysAt w) (b : List UInt8) (hb : Sl w 1 (.slice a n c) n (bytes b)) (hbn : b.length = n) (hn : n ≤ 32768) (hbF : ∀ k, (Value.slice a n c).ownBlock = some k → bytes b ≠ [] → ¬ F k) (hlen : lh.length ≤ 35184372088832) (hFw : ¬ F 2) :
    Calls Tryd.prog 19 #[.pointer (some ⟨s, 0, none⟩), .agg C] w fun e w' => e = .returned (.bool true) ∧ ∃ F', SideAt w' s (lh ++ b) lp F' ∧ (∀ k, F' k → F k ∨ w.heap.size ≤ k) ∧ Upd F w w' := by
  obtain ⟨ph, q, pp, cb, cp, gh, gp, ab, ap, hrow, hh, hp, hob, hop, d1, d2, d3, d4, d5, d6, hF, hlt⟩ := h
  obtain ⟨n1, hn1⟩ : ∃ n1, n1 = lh.length := ⟨_, rfl⟩
  obtain ⟨n2, hn2⟩ : ∃ n2, n2 = lp.length := ⟨_, rfl⟩
  rw [← hn1, ← hn2] at hrow
  rw [← hn1] at hob
  rw [← hn2] at hop
  have Hn2 := Lib.hid hn2
  have Hp := Lib.hid hp
  have Hh := Lib.hid hh
  have Hob := Lib.hid hob
  have HC := Lib.hid hC
  have Hk := Lib.hid hk
  have Hn1 := Lib.hid hn1
  have hCs := Lib.hid hC.size
  have Hrow := Lib.hid hrow
  have Hop := Lib.hid hop
  have Hd := Lib.hid (And.intro d1 (And.intro d2 (And.intro d3 (And.intro d4 (And.intro d5 d6)))))
  have HF := Lib.hid hF
  have Hlt := Lib.hid hlt
  have HFw := Lib.hid hFw
  have hlen2 : n1 ≤ 35184372088832 := by omega
  have Hb := Lib.hid hb
  have Hbn := Lib.hid hbn
  have HbF := Lib.hid hbF
  clear hb hbn hbF
  clear hh hp hob hop d1 d2 d3 d4 d5 d6 hF hlt hFw hC hk hn1 hn2 hrow hlen
  obtain ⟨w1, hw1⟩ : ∃ w1, w1 = w.alloc (.cells C 35) := ⟨_, rfl⟩
  have hb1 : Below w.heap.size w w1 := by rw [hw1]; exact on_alloc (Below.refl _ _) _
  have hat := HC.out.at w1 w.heap.size (by rw [hw1]; exact heap_alloc_new _ _)
  obtain ⟨f0, f1, f2, f3⟩ := hat
  have hr1 := (hb1.block _ (lt_heap Hrow.out)).trans Hrow.out
  have s0 := cell_of_row w1 s 0 _ _ _ hr1
  have s1 := cell_of_row w1 s 1 _ _ _ hr1
  have s2 := cell_of_row w1 s 2 _ _ _ hr1
  have s3 := cell_of_row w1 s 3 _ _ _ hr1
  simp at s0 s1 s2 s3
  have Hb1 := Lib.hid hb1
  have F3 := Lib.hid f3
  clear hb1 hr1 f3
  go_enter Tryd.func19, Tryd.ntmps19
  have HG1 : Hid (w1.heap[w.heap.size]? = some (.cells C 35 (0, 0))) := by show _ = _; rw [hw1]; exact heap_alloc_new _ _
  have hroom : RoomAt (w1.alloc (.cells #[.slice none 0 0, .slice none 0 0, .slice none 0 0, .slice none 0 0, .slice none 0 0, .slice none 0 0, .slice none 0 0, .slice none 0 0, .slice none 0 0, .slice none 0 0, .slice none 0 0, .slice none 0 0, .slice none 0 0, .slice none 0 0, .slice none 0 0, .slice none 0 0, .slice none 0 0, .slice none 0 0, .slice none 0 0, .slice none 0 0, .slice none 0 0, .slice none 0 0, .slice none 0 0, .slice none 0 0, .slice none 0 0, .slice none 0 0] 60)) w1.heap.size (.slice none 0 0) (.slice none 0 0) (.slice none 0 0) (.slice none 0 0) := heap_alloc_new w1 _
  have hbr : Below w.heap.size w (w1.alloc (.cells #[.slice none 0 0, .slice none 0 0, .slice none 0 0, .slice none 0 0, .slice none 0 0, .slice none 0 0, .slice none 0 0, .slice none 0 0, .slice none 0 0, .slice none 0 0, .slice none 0 0, .slice none 0 0, .slice none 0 0, .slice none 0 0, .slice none 0 0, .slice none 0 0, .slice none 0 0, .slice none 0 0, .slice none 0 0, .slice none 0 0, .slice none 0 0, .slice none 0 0, .slice none 0 0, .slice none 0 0, .slice none 0 0, .slice none 0 0] 60)) := Hb1.out.alloc Hb1.out.size _
  have hGr := (Below.heap_alloc w1 (.cells #[.slice none 0 0, .slice none 0 0, .slice none 0 0, .slice none 0 0, .slice none 0 0, .slice none 0 0, .slice none 0 0, .slice none 0 0, .slice none 0 0, .slice none 0 0, .slice none 0 0, .slice none 0 0, .slice none 0 0, .slice none 0 0, .slice none 0 0, .slice none 0 0, .slice none 0 0, .slice none 0 0, .slice none 0 0, .slice none 0 0, .slice none 0 0, .slice none 0 0, .slice none 0 0, .slice none 0 0, .slice none 0 0, .slice none 0 0] 60) w.heap.size (lt_heap HG1.out)).trans HG1.out
  have f2r := (HC.out.at (w1.alloc (.cells #[.slice none 0 0, .slice none 0 0, .slice none 0 0, .slice none 0 0, .slice none 0 0, .slice none 0 0, .slice none 0 0, .slice none 0 0, .slice none 0 0, .slice none 0 0, .slice none 0 0, .slice none 0 0, .slice none 0 0, .slice none 0 0, .slice none 0 0, .slice none 0 0, .slice none 0 0, .slice none 0 0, .slice none 0 0, .slice none 0 0, .slice none 0 0, .slice none 0 0, .slice none 0 0, .slice none 0 0, .slice none 0 0, .slice none 0 0] 60)) w.heap.size hGr).2.2.1
  obtain ⟨wr, hwr⟩ : ∃ wr, wr = w1.alloc (.cells #[.slice none 0 0, .slice none 0 0, .slice none 0 0, .slice none 0 0, .slice none 0 0, .slice none 0 0, .slice none 0 0, .slice none 0 0, .slice none 0 0, .slice none 0 0, .slice none 0 0, .slice none 0 0, .slice none 0 0, .slice none 0 0, .slice none 0 0, .slice none 0 0, .slice none 0 0, .slice none 0 0, .slice none 0 0, .slice none 0 0, .slice none 0 0, .slice none 0 0, .slice none 0 0, .slice none 0 0, .slice none 0 0, .slice none 0 0] 60) := ⟨_, rfl⟩
  have hwr2 := hwr
  rw [hw1] at hwr2
  rw [← hwr] at hroom hbr hGr
  have hsz1 : w1.heap.size = w.heap.size + 1 := by rw [hw1]; simp
  rw [hw1] at f0 f1 f2 f2r
  clear s0 s1 s2 s3
  go_wp2_with fail
  rw [← hwr2]
  have hp : (w.alloc (.cells C 35)).heap.size = w1.heap.size := by rw [hw1]
  obtain ⟨p, hpp⟩ : ∃ p, p = w1.heap.size := ⟨_, rfl⟩
  obtain ⟨G, hG⟩ : ∃ G, G = w.heap.size := ⟨_, rfl⟩
  rw [← hpp] at hroom
  rw [show w.heap.size + 1 = p by omega]
  rw [← hG] at hGr ⊢
  have hpG : p = G + 1 := by omega
  have hp1 : p < wr.heap.size := lt_heap hroom
  clear hw1 hwr hwr2 f0 f1 f2 f2r HG1 F3 hp hpp Hb1
  refine (roomBytes_any wr p none none 0 0 _ _ 0 hroom [] [] (Own.nil _ _ _) (Own.nil _ _ _) (by decide) a c n b (Hb.out.below hbr) Hbn.out (by omega)).mono ?_
  rintro e w2 ⟨af, ab', aa', cf, cb', ca', rfl, hr2, hob2, hoa2, hof2, hfb2, hbb2, hab2, hu2⟩
  simp only [List.nil_append, Nat.zero_add] at hr2 hob2 hoa2 hbb2 hab2 ⊢
  have hwB : Below w.heap.size w w2 := hbr.upd (Nat.le_refl _) hu2 (fun b h => by
    rcases h with h | h | h
    · omega
    · simp [Value.ownBlock] at h
    · simp [Value.ownBlock] at h)
  obtain ⟨N, hN⟩ : ∃ N, N = n + 600 := ⟨_, rfl⟩
  rw [← hN] at hob2 hof2 hfb2 ⊢
  have hszr := hbr.size
  have hsz25 : wr.heap.size ≤ w2.heap.size := hu2.size
  have hR2 : RoomB w2 w.heap.size p ab' aa' cb' ca' af cf n N b := ⟨⟨hr2, hob2, hoa2, hof2⟩, by omega, fun k hk => by rcases hbb2 k hk with h | h; (simp [Value.ownBlock] at h); omega, fun k hk => by rcases hab2 k hk with h | h; (simp [Value.ownBlock] at h); omega, fun k hk => by have := hfb2 k hk; omega⟩
  have hG2 : w2.heap[G]? = some (.cells C 35 (0, 0)) := hu2.at_ hGr (by rintro (h | h | h); omega; (simp [Value.ownBlock] at h); (simp [Value.ownBlock] at h))
  have hfa : ∀ k, (Value.slice af N cf).ownBlock = some k → w.heap.size ≤ k ∧ k < w2.heap.size := fun k hk => ⟨by have := hfb2 k hk; omega, hof2.lt hk⟩
  have Hfa := Lib.hid hfa
  clear hfa
  have hN1 : n + 600 ≤ N := by omega
  have hN2 : N ≤ n + 600 := by omega
  have HN := Lib.hid hN
  have HR2 := Lib.hid hR2
  have HG2 := Lib.hid hG2
  have HB2 := Lib.hid hwB
  have Hrow2 := Lib.hid ((hwB.block _ (lt_heap Hrow.out)).trans Hrow.out)
  have s0 := cell_of_row w2 s 0 _ _ _ Hrow2.out
  simp at s0
  have HG := Lib.hid hG
  clear hr2 hob2 hoa2 hof2 hfb2 hbb2 hab2 hu2 hwB hN hR2 hG2 hroom hGr hbr hszr hsz1 hpG hG hp1
  go_wp2_with fail
  refine (add_at w2 ph gh lh (Hh.out.kept (Upd.below HB2.out fun _ => False) id (fun _ _ => id)) af N n b (HR2.out.in_ Hbn.out (by omega)) Hbn.out (Hk.out.below HB2.out) (by rw [← Hn1.out]; omega) (fun e => HFw.out (HF.out _ (by simp [e]))) (fun e => HFw.out (HF.out _ (by simp [e])))).mono ?_
  rintro e w3 ⟨rfl, g', hh3, hg3, hu3⟩
  have hSF : ∀ k, (k = ph ∨ gh = some k) → F k := fun k h => HF.out _ (by rcases h with h | h <;> simp [h])
  have hSl : ∀ k, (k = ph ∨ gh = some k) → k < w.heap.size := fun k h => Hlt.out _ (hSF _ h)
  have HR3 := Lib.hid (HR2.out.kept hu3 hSl)
  have o1 := Hh.out.off Hrow.out (by decide) (by decide)
  have hr3 := hu3.at_ Hrow2.out (by rintro (h | h); exact o1.1 h; exact o1.2 h)
  have hG3 := hu3.at_ HG2.out (fun h => by have h1 := hSl _ h; have h2 := HG.out; omega)
  have hu03 : Upd (fun k => k = ph ∨ gh = some k) w w3 := (Upd.below HB2.out _).trans hu3
  have hob3 := Hob.out.kept hu03 (fun k hk => by rintro (h | h); exact Hh.out.apart Hob.out (by rw [hk, h]); exact (Hd.out.2.2.1 k (by rw [← Hn1.out]; exact hk)).1 h)
  have hb3 := Hb.out.kept hu03 (fun k hk hne h => HbF.out k hk hne (hSF _ h))
  have s2 := cell_of_row w3 s 2 _ _ _ hr3
  have t2 := (HC.out.at w3 G hG3).2.2.1
  simp at s2
  have Hh3 := Lib.hid hh3
  have Hg3 := Lib.hid hg3
  have Hu3 := Lib.hid hu03
  have Hr3 := Lib.hid hr3
  have HG3 := Lib.hid hG3
  have Hob3 := Lib.hid hob3
  have Hb3 := Lib.hid hb3
  have hsz3 : w2.heap.size ≤ w3.heap.size := hu3.size
  have hsz2 : w.heap.size ≤ w2.heap.size := HB2.out.size
  obtain ⟨i0, hi, hz0, hz1, hz2⟩ := info_parts info_byte
  have hsab : (Value.slice ab n1 cb).ownBlock ≠ some s := Hob.out.apart Hrow.out (by decide)
  have Hsab := Lib.hid hsab
  have hGF : ∀ k, F k → k ≠ G := fun k hk => by have h1 := Hlt.out _ hk; have h2 := HG.out; omega
  have HGF := Lib.hid hGF
  have Ho1 := Lib.hid o1
  clear hSF hSl hr3 hG3 hu03 hob3 hb3 hh3 hg3 hu3 s0 hsab hGF o1 HR2 HG2 Hrow2
  go_wp2_with fail
  go_region_law
    ((refine step_append_any rfl _ _ 24 rfl 5 i0 (.int .u8 0) 1 1 Tryd.underlying24 hi hz0 hz1 hz2 rfl (by decide) (.slice ab n1 cb) n1 (bytes lh) (.slice a n c) n (bytes b) rfl rfl (Hob3.out.kept (Upd.refl (fun _ => False) w3).drew (fun _ _ => id)) (Hb3.out.kept (Upd.refl (fun _ => False) w3).drew (fun _ _ _ => id)) (bytes_one b) (by omega) (by omega) ?_
      intro a4 c4 w4 hown4 hgr4 hb4
      have hu4 : Upd (fun k => (Value.slice ab n1 cb).ownBlock = some k) w3 w4 := Upd.grown (Upd.refl _ w3).drew hgr4 (fun k hk _ => hk)
      have hr4 := hu4.at_ Hr3.out Hsab.out
      have s4' := cell_of_row w4 s 2 _ _ _ hr4
      simp at s4'
      have z3 := frozen_of_row w4 s 2 _ _ hr4
      have Hr4 := Lib.hid hr4
      have Hu4 := Lib.hid hu4
      have Hown4 := Lib.hid hown4
      have Hb4 := Lib.hid hb4
      clear hu4 hown4 hb4 hgr4 hr4))
  all_goals
    have hs5 := heap_setCell_same w4 s 2 _ _ (.slice a4 (n1 + n) c4) Hr4.out
    simp at hs5
    have hu5 : Upd (fun k => k = s) w4 (w4.setCell ⟨s, 2, none⟩ (.slice a4 (n1 + n) c4)) := (Upd.refl _ _).setCell _ _ (fun _ => rfl)
    have hu35 : Upd (fun k => k = s ∨ (Value.slice ab n1 cb).ownBlock = some k) w3 (w4.setCell ⟨s, 2, none⟩ (.slice a4 (n1 + n) c4)) := (Hu4.out.mono fun _ _ h => .inr h).trans (hu5.mono fun _ _ h => .inl h)
    have h4s : (Value.slice a4 (n1 + n) c4).ownBlock ≠ some s := Hown4.out.apart Hr4.out (by decide)
    generalize w4.setCell ⟨s, 2, none⟩ (.slice a4 (n1 + n) c4) = w5 at hs5 hu5 hu35 ⊢
    have hS5 : ∀ k, (k = s ∨ (Value.slice ab n1 cb).ownBlock = some k) → F k := fun k h => HF.out _ (by rw [← Hn1.out]; rcases h with h | h <;> simp [h])
    have hR5 := HR3.out.kept hu35 (fun k h => Hlt.out _ (hS5 k h))
    have hb5 := Hb3.out.kept hu35 (fun k hk hne h => HbF.out k hk hne (hS5 _ h))
    have hG5 := hu35.at_ HG3.out (fun h => HGF.out _ (hS5 _ h) rfl)
    have t2' := (HC.out.at w5 G hG5).2.2.1
    have hUF : Upd F w w5 := (Hu3.out.mono fun k _ h => HF.out _ (by rcases h with h | h <;> simp [h])).trans (hu35.mono fun k _ h => hS5 k h)
    have hside : ∃ F', SideAt w5 s (lh ++ b) lp F' ∧ (∀ k, F' k → F k ∨ w2.heap.size ≤ k) := by
      obtain rfl := Hn1.out
      obtain rfl := Hn2.out
      obtain ⟨d1, d2, d3, d4, d5, d6⟩ := Hd.out
      have l1 := Hh.out.lt
      have l2 := Hp.out.2.1.lt
      have l3 := fun k => Hob.out.lt (k := k)
      have l4 := fun k => Hop.out.lt (k := k)
      have o1 := Ho1.out
      have o2 := Hp.out.2.1.off Hrow.out (by decide) (by decide)
      have o3 := Hh.out.apart Hop.out
      have o3b := Hh.out.apart Hob.out
      have o4 := Hp.out.2.1.apart Hop.out
      have o5 := Hp.out.2.1.apart Hob.out
      have o6 := Hsab.out
      have o7 : (Value.slice ap lp.length cp).ownBlock ≠ some s := Hop.out.apart Hrow.out (by decide)
      have o8 : q ≠ s := fun e => by
        have h := Hp.out.1
        rw [e, Hrow.out] at h
        simp at h
      have o9 : (Value.slice ab lh.length cb).ownBlock ≠ some q := Hob.out.apart Hp.out.1 (by decide)
      have o10 := Hh.out.off Hp.out.1 (by decide) (by decide)
      have hg' := Hg3.out
      have h4' : ∀ k, (Value.slice a4 (lh.length + n) c4).ownBlock = some k → (Value.slice ab lh.length cb).ownBlock = some k ∨ w3.heap.size ≤ k := fun k hk => by
        by_cases h : (Value.slice ab lh.length cb).ownBlock = some k
        · exact .inl h
        · exact .inr (Hb4.out k h hk)
      have l5 := Hh3.out.lt
      have hll : (lh ++ b).length = lh.length + n := by rw [List.length_append, Hbn.out]
      refine ⟨fun k => F k ∨ g' = some k ∨ (Value.slice a4 (lh.length + n) c4).ownBlock = some k, ⟨ph, q, pp, c4, cp, g', gp, a4, ap, ?_, ?_, ?_, ?_, ?_, d1, ?_, ?_, ?_, ?_, d6, ?_, ?_⟩, ?_⟩
      · rw [hll]; exact hs5
      · refine Hh3.out.kept hu35 ?_ ?_
        · rintro (h | h); exact o1.1 h.symm; exact o3b h
        · intro k hk; rintro (h | h)
          · rcases hg' _ hk with h1 | h1
            · exact o1.2 (h ▸ h1)
            · have := lt_heap Hrow.out; omega
          · rcases hg' _ hk with h1 | h1
            · exact (d3 _ h).1 h1
            · have := l3 _ h; omega
      · refine (Hp.out.kept Hu3.out ?_ ?_ ?_).kept hu35 ?_ ?_ ?_
        · rintro (h | h); exact o10.1 h; exact o10.2 h
        · rintro (h | h); exact d1 h.symm; exact d5 _ h rfl
        · intro k hk; rintro (h | h); exact d6 _ hk h; exact d2 _ h hk
        · rintro (h | h); exact o8 h; exact o9 h
        · rintro (h | h); exact o2.1 h.symm; exact o5 h
        · intro k hk; rintro (h | h); exact o2.2 (h ▸ hk); exact (d3 _ h).2.1 hk
      · rw [hll, bytes_append]
        exact Hown4.out.kept hu5 (fun k hk h => h4s (h ▸ hk))
      · refine (Hop.out.kept Hu3.out ?_).kept hu35 ?_
        · intro k hk; rintro (h | h); exact o3 (h ▸ hk); exact (d4 _ hk).1 h
        · intro k hk; rintro (h | h); exact o7 (h ▸ hk); exact (d3 _ h).2.2 hk
      · intro k hk h
        rcases hg' _ hk with h1 | h1
        · exact d2 _ h1 h
        · have := l2.2 _ h; omega
      · intro k hk
        rw [hll] at hk
        refine ⟨fun h => ?_, fun h => ?_, fun h => ?_⟩
        · rcases h4' _ hk with h1 | h1
          · rcases hg' _ h with h2 | h2
            · exact (d3 _ h1).1 h2
            · have := l3 _ h1; omega
          · have := l5.2 _ h; omega
        · rcases h4' _ hk with h1 | h1
          · exact (d3 _ h1).2.1 h
          · have := l2.2 _ h; omega
        · rcases h4' _ hk with h1 | h1
          · exact (d3 _ h1).2.2 h
          · have := l4 _ h; omega
      · intro k hk
        refine ⟨fun h => ?_, (d4 _ hk).2⟩
        rcases hg' _ h with h1 | h1
        · exact (d4 _ hk).1 h1
        · have := l4 _ hk; omega
      · intro k hk h
        rcases hg' _ hk with h1 | h1
        · exact d5 _ h1 h
        · have := l2.1; omega
      · rw [hll]
        rintro k (h | h | h | h | h | h | h | h)
        · exact .inl (HF.out _ (by simp [h]))
        · exact .inl (HF.out _ (by simp [h]))
        · exact .inl (HF.out _ (by simp [h]))
        · exact .inl (HF.out _ (by simp [h]))
        · exact .inr (.inl h)
        · exact .inl (HF.out _ (by simp [h]))
        · exact .inr (.inr h)
        · exact .inl (HF.out _ (by simp [h]))
      · have z1 := hu5.size
        have z2 := Hu4.out.size
        rintro k (h | h | h)
        · have := Hlt.out _ h; omega
        · have := l5.2 _ h; omega
        · have := Hown4.out.lt h; omega
      · rintro k (h | h | h)
        · exact .inl h
        · exact (hg' _ h).imp (fun h => HF.out _ (by simp [h])) id
        · exact (h4' _ h).imp (fun h => HF.out _ (by simp [h])) (fun h => by omega)
    obtain ⟨F', hside, hF'⟩ := hside
    have Hside := Lib.hid hside
    have HF' := Lib.hid hF'
    have HR5 := Lib.hid hR5
    have Hb5 := Lib.hid hb5
    have HUF := Lib.hid hUF
    clear hS5 hside hF' hR5 hb5 hG5 hUF hs5 hu5 hu35 h4s s4' z3 Hr4 Hu4 Hown4 Hb4 hsz3 Hsab HGF Ho1 Hob3 HG3 Hr3 Hu3 Hg3 Hh3 t2 s2 HR3 Hb3 hi hz0 hz1 hz2 HFw Hd Hop Hrow Hob Hh Hp
    go_wp2_with fail
    refine (same_any w5 af a N c n n b b (HR5.out.in_ Hbn.out (by omega)) Hb5.out Hbn.out Hbn.out).mono ?_
    rintro e w6 ⟨rfl, hb6⟩
    rw [show decide (b = b) = true by simp]
    have HR6 := Lib.hid (HR5.out.kept (Upd.below hb6 fun _ => False) (fun _ h => h.elim))
    have Hside6 := Lib.hid (Hside.out.below hb6)
    have HUF6 := Lib.hid (HUF.out.trans (Upd.below hb6 _))
    clear hb6 HR5 Hside HUF Hb5 t2'
    go_wp2_with fail
    refine (hold_any w6 p ab' aa' cb' ca' _ 1 HR6.out.1.1 _ _ HR6.out.1.2.1.sl HR6.out.1.2.2.1.sl (by decide) (HR6.out.holds Hbn.out HN.out (by omega))).mono ?_
    rintro e w' ⟨rfl, hw⟩
    obtain rfl := hw.symm
    have Hof6 := Lib.hid HR6.out.1.2.2.2
    clear HR6
    go_wp2_with fail
    go_loopw [7] (fun i wq => ∃ (j : Nat) (z : List UInt8), j ≤ n ∧ i = .int .i64 j ∧ z.length = n ∧ Own wq 5 1 (.slice af N cf) N (bytes (z ++ marks 600)) ∧ SideAt wq s (lh ++ b) lp F' ∧ Upd F w wq) (fun i _ => n - (intOf i).toNat)
    case atStart => exact ⟨0, b, Nat.zero_le _, rfl, Hbn.out, Hof6.out, Hside6.out, HUF6.out⟩
    case round =>
      rename World => wq
      obtain ⟨j, z, hj, rfl, hzn, hof, hsd, huf⟩ := hrel
      have Hzn := Lib.hid hzn
      have Hof := Lib.hid hof
      have Hsd := Lib.hid hsd
      have Huf := Lib.hid huf
      clear hzn hof hsd huf Hside6 HUF6 Hof6
      by_cases hjn : j < n
      · have hlz : (bytes (z ++ marks 600)).length = n + 600 := by rw [bytes_length, List.length_append, Hzn.out, marks_length]
        obtain ⟨g, off, cap, cur, hv, _, _, _, hcell, hfr⟩ := Hof.out.cells (ne_nil_of_length (by omega))
        injection hv with hv1 _ hv3
        subst hv1 hv3
        have f0 := hcell j _ (bytes_getD (z ++ marks 600) j (by rw [List.length_append, Hzn.out, marks_length]; omega))
        have fz := hfr (off + j)
        obtain ⟨x, hx⟩ : ∃ x, x = ((z ++ marks 600).getD j 0).toNat := ⟨_, rfl⟩
        have hx8 : x < 256 := by rw [hx]; exact UInt8.toNat_lt _
        rw [← hx] at f0
        obtain ⟨v, lv, qv⟩ : ∃ v : Nat, v < 256 ∧ ((x : Int) + 1) % 256 = (v : Int) := ⟨(x + 1) % 256, Nat.mod_lt _ (by decide), by omega⟩
        have i1 : (0 : Int) ≤ (j : Int) := by omega
        have i2 : (j : Int) < (n : Int) := by omega
        have i3 : (j : Int) < (N : Int) := by omega
        clear hcell hfr hx hlz
        go_wp2
        go_roundw
        case rel =>
          have hu : Upd (fun b => b = g) wq (wq.setCell ⟨g, off + j, none⟩ (.int .u8 (((x : Int) + 1) % 256))) := (Upd.refl _ _).setCell _ _ (fun _ => rfl)
          have hgg := Hfa.out g (by simp [Value.ownBlock])
          rw [qv] at hu
          refine ⟨j + 1, z.set j (UInt8.ofNat v), hjn, by go_num, by rw [List.length_set]; exact Hzn.out, ?_, Hsd.out.kept hu (fun k hk h => by rcases HF'.out k hk with h1 | h1; (have := Hlt.out _ h1; omega); omega), Huf.out.then hu (fun k hk h => by omega)⟩
          have h := Hof.out.set j (.int .u8 (v : Nat)) (by omega)
          have e : (bytes (z ++ marks 600)).set j (.int .u8 (v : Nat)) = bytes (z.set j (UInt8.ofNat v) ++ marks 600) := by
            rw [← List.set_append_left _ _ (by rw [Hzn.out]; exact hjn)]
            simp [bytes, List.map_set, UInt8.toNat_ofNat', Nat.mod_eq_of_lt lv]
          rw [e] at h
          exact h
        case measure => simp [intOf]; omega
      · have hjn' : (n : Int) ≤ (j : Int) := by omega
        go_wp2
        go_ret
        exact ⟨rfl, F', Hsd.out, fun k h => (HF'.out k h).imp id (fun h => Nat.le_trans hsz2 h), Huf.out⟩
end Go.Proofs.YtefobboakikpbaaDoor
