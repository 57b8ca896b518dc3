/- The law SumParts, walked. -/
import Derived.Test.YtefobboakikpbaaDoorKn
import Derived.Deep.RegionHeld3
namespace Go.Proofs.YtefobboakikpbaaDoor
open Go.RowKit
set_option linter.unusedVariables false
set_option linter.unusedSimpArgs false

/-- v is a slice of whole numbers, which read as these. -/
def Ints (w : World) (v : Value) (n : Nat) : Prop := ∃ (a : Option Addr) (c : Nat) (zs : List Int), v = .slice a n c ∧ zs.length = n ∧ n ≤ 9223372036854775807 ∧ (∀ z ∈ zs, -9223372036854775808 ≤ z ∧ z ≤ 9223372036854775807) ∧
  (0 < n → ∃ ad, a = some ad ∧ ∀ i, i < n → w.cell? (ad.add i) = some (.int .i64 (zs.getD i 0)))

theorem info_bytes : (Tryd.prog.info? 24).map (fun i => (i.zero, i.size, i.bytes)) = some (some (.slice none 0 0), 1, 24) := by kernel_rfl
/-- Parts as values: each reads so in w. -/
def PartsIn (w : World) (vs : List Value) (Ps : List (List UInt8)) : Prop :=
  vs.length = Ps.length ∧ ∀ i, i < Ps.length → ∃ a c, vs[i]? = some (.slice a (Ps.getD i []).length c) ∧ Sl w 1 (.slice a (Ps.getD i []).length c) (Ps.getD i []).length (bytes (Ps.getD i []))
theorem PartsIn.nil (w : World) : PartsIn w [] [] := ⟨rfl, fun i hi => absurd hi (Nat.not_lt_zero _)⟩
theorem PartsIn.push {w : World} {vs : List Value} {Ps : List (List UInt8)} (h : PartsIn w vs Ps) (a : Option Addr) (c : Nat) (x : List UInt8) (n : Nat) (hn : x.length = n) (hs : Sl w 1 (.slice a n c) n (bytes x)) : PartsIn w (vs ++ [.slice a n c]) (Ps ++ [x]) := by
  subst hn
  refine ⟨by simp [h.1], fun i hi => ?_⟩
  by_cases hl : i < Ps.length
  · obtain ⟨a1, c1, h1, h2⟩ := h.2 i hl
    refine ⟨a1, c1, ?_, ?_⟩
    · rw [List.getElem?_append_left (by rw [h.1]; exact hl), h1]; simp [List.getD_eq_getElem?_getD, List.getElem?_append_left hl]
    · rw [show (Ps ++ [x]).getD i [] = Ps.getD i [] by simp [List.getD_eq_getElem?_getD, List.getElem?_append_left hl]]; exact h2
  · have hi2 : i = Ps.length := by simp at hi; omega
    subst hi2
    have e : (Ps ++ [x]).getD Ps.length [] = x := by simp [List.getD_eq_getElem?_getD]
    rw [e]
    exact ⟨a, c, by rw [← h.1]; simp, hs⟩
theorem PartsIn.parts {w w' : World} {vs : List Value} {Ps : List (List UInt8)} (h : PartsIn w vs Ps) (hb : Below w.heap.size w w') {v : Value} (hs : Sl w' 1 v Ps.length vs) : Parts w' v Ps :=
  ⟨vs, hs, fun i hi => by obtain ⟨a, c, h1, h2⟩ := h.2 i hi; exact ⟨a, c, h1, h2.below hb⟩⟩

/-- What is asked of a world in which an array stands in a local. -/
def Kw (w : World) (C : Array Value) (B : Nat) (w' : World) : Prop := Below w.heap.size w w' ∧ w'.heap[B]? = some (.cells C 26 (0, 0))
theorem Kw.below {w w' : World} {C : Array Value} {B : Nat} (h : Kw w C B w') : Below w.heap.size w w' := h.1
theorem Kw.next {w e wn : World} {C : Array Value} {B : Nat} (hb : Below e.heap.size e wn) (h : Kw w C B e) : Kw w C B wn :=
  ⟨h.1.trans (hb.mono h.1.size), (hb.block _ (lt_heap h.2)).trans h.2⟩
theorem Kw.alloc {w e : World} {C : Array Value} {B : Nat} (h : Kw w C B e) (o : Obj) : Kw w C B (e.alloc o) := h.next (on_alloc (Below.refl _ _) o)
theorem Kw.drew {w e : World} {C : Array Value} {B : Nat} (h : Kw w C B e) : Kw w C B e.drew := h.next (on_drew (Below.refl _ _))
theorem Kw.upd {w e wn : World} {C : Array Value} {B : Nat} (h : Kw w C B e) {S : Nat → Prop} (hu : Upd S e wn) (h1 : ∀ i, S i → w.heap.size ≤ i) (h2 : ¬ S B) : Kw w C B wn := ⟨h.1.upd (Nat.le_refl _) hu h1, hu.at_ h.2 h2⟩
/-- .. and a hash beside it. -/
def Kh (w : World) (C : Array Value) (B p : Nat) (g : Option Nat) (l : List UInt8) (w' : World) : Prop := Kw w C B w' ∧ HashAt w' p g l
theorem Kh.next {w e wn : World} {C : Array Value} {B p : Nat} {g : Option Nat} {l : List UInt8} (hb : Below e.heap.size e wn) (h : Kh w C B p g l e) : Kh w C B p g l wn := ⟨h.1.next hb, h.2.kept (Upd.below hb fun _ => False) id (fun _ _ => id)⟩
theorem Kh.alloc {w e : World} {C : Array Value} {B p : Nat} {g : Option Nat} {l : List UInt8} (h : Kh w C B p g l e) (o : Obj) : Kh w C B p g l (e.alloc o) := h.next (on_alloc (Below.refl _ _) o)
theorem Kh.drew {w e : World} {C : Array Value} {B p : Nat} {g : Option Nat} {l : List UInt8} (h : Kh w C B p g l e) : Kh w C B p g l e.drew := h.next (on_drew (Below.refl _ _))
theorem Kh.range {w w' : World} {L : List Value} {B p : Nat} {g : Option Nat} {l : List UInt8} (h : Kh w L.toArray B p g l w') : Kh w L.toArray B p g l w' ∧ w'.rangeAt B 0 L := ⟨h, fun j v hj => by
  rw [Nat.zero_add, cell_of_row w' B j _ _ _ h.1.2]; simpa using hj⟩
theorem Kw.range {w w' : World} {L : List Value} {B : Nat} (h : Kw w L.toArray B w') : Kw w L.toArray B w' ∧ w'.rangeAt B 0 L := ⟨h, fun j v hj => by
  rw [Nat.zero_add, cell_of_row w' B j _ _ _ h.2]; simpa using hj⟩

theorem hashLen_any (w : World) (p : Nat) (g : Option Nat) (l : List UInt8) (h : HashAt w p g l) :
    Calls Tryd.prog 14 #[.pointer (some ⟨p, 0, none⟩)] w fun e w' => e = .returned (.int .i64 l.length) ∧ Below w.heap.size w w' := by
  obtain ⟨s, a, c, rest, hrow, _⟩ := h
  have f9 := cell_of_row w _ 9 _ _ _ hrow
  simp at f9
  clear hrow
  go_enter Tryd.func14, Tryd.ntmps14
  go_wp2
  go_ret
  exact ⟨rfl, Below.refl _ _⟩

set_option maxHeartbeats 1000000 in
theorem place_any (w : World) (k n : Int) (hn : 0 < n) (hm : n ≤ 4611686018427387904) (hk1 : -9223372036854775808 ≤ k) (hk2 : k ≤ 9223372036854775807) :
    Calls Tryd.prog 40 #[.int .i64 k, .int .i64 n] w fun e w' => (∃ r : Nat, (r : Int) < n ∧ e = .returned (.int .i64 r)) ∧ w' = w := by
  have h1 := Int.tmod_lt_of_pos k hn
  have h2 := Int.lt_tmod_of_pos k hn
  obtain ⟨t, ht⟩ : ∃ t, t = k.tmod n := ⟨_, rfl⟩
  rw [← ht] at h1 h2
  have e := ht.symm
  have hne : n ≠ 0 := by omega
  clear ht
  by_cases h0 : t < 0
  · have e2 : IntKind.i64.wrap (t + n) = t + n := IntWalk.i64_in _ (by omega)
    go_enter Tryd.func40, Tryd.ntmps40
    go_wp2
    all_goals
      go_ret
      exact ⟨⟨(t + n).toNat, by omega, by simp; omega⟩, rfl⟩
  · go_enter Tryd.func40, Tryd.ntmps40
    go_wp2
    all_goals
      go_ret
      exact ⟨⟨t.toNat, by omega, by simp; omega⟩, rfl⟩

set_option maxHeartbeats 4000000 in
set_option maxRecDepth 100000 in
theorem cutUp_at (w0 w : World) (a : Option Addr) (c : Nat) (l : List UInt8) (hl : Sl w0 1 (.slice a l.length c) l.length (bytes l)) (hlc : l.length ≤ c) (hlen : l.length ≤ 32768) (vi : Value) (n : Nat) (hi : Ints w vi n) :
    Calls Tryd.prog 37 #[.slice a l.length c, vi] w fun e w' =>
      ∃ (ap : Option Addr) (cp : Nat) (Ps : List (List UInt8)) (vs : List Value), e = .returned (.slice ap Ps.length cp) ∧ (Sl w' 1 (.slice ap Ps.length cp) Ps.length vs ∧ (∀ b, (Value.slice ap Ps.length cp).ownBlock = some b → w.heap.size ≤ b) ∧ PartsIn w0 vs Ps) ∧ Ps.flatten = l ∧ Ps.length ≤ 101 ∧ Below w.heap.size w w' := by
  obtain ⟨i0, hinf, hz0, hz1, hz2⟩ := info_parts info_bytes
  have Hl := Lib.hid hl
  clear hl
  obtain ⟨ai, ci, zs, rfl, hzl, hn63, hzr, hcell⟩ := hi
  have Hzl := Lib.hid hzl
  have Hzr := Lib.hid hzr
  have Hcell := Lib.hid hcell
  clear hzl hzr hcell
  go_enter Tryd.func37, Tryd.ntmps37
  go_wp2_with fail
  go_loopw [0, 5, 6] (fun v u i wr => ∃ (k : Nat) (r : List UInt8) (a2 : Option Addr) (c2 : Nat) (al : Option Addr) (cl : Nat) (Ps : List (List UInt8)) (vs : List Value), v = .slice a2 r.length c2 ∧ u = .slice al k cl ∧ i = .int .i64 k ∧ Ps.length = k ∧ Ps.flatten ++ r = l ∧
      (k ≤ 100 ∨ (k ≤ 101 ∧ r = [])) ∧ r.length ≤ 32768 ∧ Sl w0 1 (.slice a2 r.length c2) r.length (bytes r) ∧ r.length ≤ c2 ∧ Own wr 24 1 (.slice al k cl) k vs ∧ (∀ b, (Value.slice al k cl).ownBlock = some b → w.heap.size ≤ b) ∧ PartsIn w0 vs Ps ∧ Below w.heap.size w wr)
      (fun _ _ i _ => 101 - (intOf i).toNat)
  case atStart => exact ⟨0, l, a, c, none, 0, [], [], rfl, rfl, rfl, rfl, rfl, .inl (by omega), hlen, Hl.out, hlc, Own.nil _ _ _, by simp [Value.ownBlock], PartsIn.nil _, Below.refl _ _⟩
  case round =>
    obtain ⟨k, r, a2, c2, al, cl, Ps, vs, rfl, rfl, rfl, hpl, hfl, hk, hr3, hsl, hrc, hown, hob, hpi, hbe⟩ := hrel
    have Hpl := Lib.hid hpl
    have Hfl := Lib.hid hfl
    have Hsl := Lib.hid hsl
    have Hown := Lib.hid hown
    have Hob := Lib.hid hob
    have Hpi := Lib.hid hpi
    have Hbe := Lib.hid hbe
    clear hpl hfl hsl hown hob hpi hbe
    by_cases h0 : 0 < r.length
    · have hk1 : k ≤ 100 := by
        rcases hk with h | ⟨_, h⟩
        · exact h
        · rw [h] at h0; exact absurd h0 (by simp)
      clear hk
      by_cases hn0 : 0 < n
      · by_cases hk2 : k < 100
        · obtain ⟨m, hm⟩ : ∃ m, m = k % n := ⟨_, rfl⟩
          have hmn : m < n := by rw [hm]; exact Nat.mod_lt _ hn0
          have e1 : ((k : Int) % (n : Int)) = (m : Int) := by rw [hm]; rfl
          have e2 : Int.tmod (k : Int) (n : Int) = (m : Int) := by rw [hm]; rfl
          obtain ⟨ad, rfl, hc2⟩ := Hcell.out hn0
          have f0 := (Hbe.out.cell (block_lt_of_cell (hc2 m hmn))).trans (hc2 m hmn)
          obtain ⟨z, hz⟩ : ∃ z, z = zs.getD m 0 := ⟨_, rfl⟩
          have hzb : -9223372036854775808 ≤ z ∧ z ≤ 9223372036854775807 := by
            have hml : m < zs.length := by rw [Hzl.out]; exact hmn
            rw [hz, List.getD_eq_getElem?_getD, List.getElem?_eq_getElem hml]
            exact Hzr.out _ (List.getElem_mem hml)
          rw [← hz] at f0
          obtain ⟨zb1, zb2⟩ := hzb
          have mi1 : (0 : Int) ≤ (m : Int) := by omega
          have mi2 : (m : Int) < (n : Int) := by omega
          have hne : (n : Int) ≠ 0 := by omega
          clear hm hz hc2
          go_wp2_with fail
          refine (place_any wr z ((r.length : Int) + 1) (by omega) (by omega) zb1 zb2).mono ?_
          rintro e wq ⟨⟨M, hM, rfl⟩, hw⟩
          obtain rfl := hw.symm
          clear e1 e2 f0 mi1 mi2
          have hMr : M ≤ r.length := by omega
          obtain ⟨a4, _, hs4, _, hsl4, _⟩ := Hsl.out.cut Tryd.underlying24 size_byte M r.length hMr (Nat.le_refl _) hrc
          have hcut2 := fun w => hs4 w M rfl rfl
          simp only [Nat.mul_one] at hsl4
          have e4 : ((bytes r).drop M).take (r.length - M) = bytes (r.drop M) := by
            rw [List.take_of_length_le (by rw [List.length_drop, bytes_length]; exact Nat.le_refl _)]; simp [bytes, List.map_drop]
          rw [e4] at hsl4
          have Hsl4 := Lib.hid hsl4
          have Hsl5 := Lib.hid (Hsl.out.to hMr)
          have Ht := Lib.hid (show (r.take M).length = M by rw [List.length_take]; omega)
          clear hs4 hsl4 e4
          go_wp2_with (at_builtin; refine wpList_append_any rfl (.tmp 33) (.tmp 37) 44 rfl 24 i0 (.slice none 0 0) 1 24 Tryd.underlying44 hinf hz0 hz1 hz2 rfl (by decide) (.slice al k cl) k vs (.slice (some ⟨wr.heap.size, 0, none⟩) 1 1) 1 [.slice a2 M c2] rfl rfl (Hown.out.kept ((Upd.refl (fun _ => False) wr).alloc _) (fun _ _ => id)) (Sl.made _ _ _ _ _ _ _ _ rfl rfl (by omega)) (by simp [Value.oneCell']) (by omega) (by omega) ?_)
          intro a5 c5 w5 hown5 hgr5 hb5
          have hu5 : Upd (fun b => w.heap.size ≤ b) wr w5 := Upd.grown ((Upd.refl _ wr).alloc _) hgr5 (fun b hb _ => Hob.out b hb)
          have Hown5 := Lib.hid hown5
          have Hu5 := Lib.hid hu5
          have Hb5 := Lib.hid hb5
          clear hown5 hgr5 hb5 hu5
          go_wp2
          go_roundw
          case rel =>
            refine ⟨k + 1, r.drop M, a4, c2 - M, a5, c5, Ps ++ [r.take M], vs ++ [.slice a2 M c2], by rw [List.length_drop], rfl, by go_num, by simp [Hpl.out], ?_, .inl (by omega), by rw [List.length_drop]; omega, by rw [List.length_drop]; exact Hsl4.out, by rw [List.length_drop]; omega, Hown5.out, ?_, Hpi.out.push a2 c2 (r.take M) M Ht.out Hsl5.out, Hbe.out.upd (Nat.le_refl _) Hu5.out (fun _ h => h)⟩
            · rw [List.flatten_append]; simp; exact Hfl.out
            · intro b hb
              by_cases hbb : (Value.slice al k cl).ownBlock = some b
              · exact Hob.out b hbb
              · have h1 := Hb5.out b hbb hb
                have h2 := Hbe.out.size
                (try simp at h1); omega
          case measure => simp [intOf]; omega
        · 
          have hMr : r.length ≤ r.length := by omega
          obtain ⟨a4, _, hs4, _, hsl4, _⟩ := Hsl.out.cut Tryd.underlying24 size_byte r.length r.length hMr (Nat.le_refl _) hrc
          have hcut2 := fun w => hs4 w r.length rfl rfl
          simp only [Nat.mul_one] at hsl4
          have e4 : ((bytes r).drop r.length).take (r.length - r.length) = bytes (r.drop r.length) := by
            rw [List.take_of_length_le (by rw [List.length_drop, bytes_length]; exact Nat.le_refl _)]; simp [bytes, List.map_drop]
          rw [e4] at hsl4
          have Hsl4 := Lib.hid hsl4
          have Hsl5 := Lib.hid (Hsl.out.to hMr)
          have Ht := Lib.hid (show (r.take r.length).length = r.length by rw [List.length_take]; omega)
          clear hs4 hsl4 e4
          go_wp2_with (at_builtin; refine wpList_append_any rfl (.tmp 33) (.tmp 37) 44 rfl 24 i0 (.slice none 0 0) 1 24 Tryd.underlying44 hinf hz0 hz1 hz2 rfl (by decide) (.slice al k cl) k vs (.slice (some ⟨wr.heap.size, 0, none⟩) 1 1) 1 [.slice a2 r.length c2] rfl rfl (Hown.out.kept ((Upd.refl (fun _ => False) wr).alloc _) (fun _ _ => id)) (Sl.made _ _ _ _ _ _ _ _ rfl rfl (by omega)) (by simp [Value.oneCell']) (by omega) (by omega) ?_)
          intro a5 c5 w5 hown5 hgr5 hb5
          have hu5 : Upd (fun b => w.heap.size ≤ b) wr w5 := Upd.grown ((Upd.refl _ wr).alloc _) hgr5 (fun b hb _ => Hob.out b hb)
          have Hown5 := Lib.hid hown5
          have Hu5 := Lib.hid hu5
          have Hb5 := Lib.hid hb5
          clear hown5 hgr5 hb5 hu5
          go_wp2
          go_roundw
          case rel =>
            refine ⟨k + 1, r.drop r.length, a4, c2 - r.length, a5, c5, Ps ++ [r.take r.length], vs ++ [.slice a2 r.length c2], by rw [List.length_drop]; try simp, rfl, by go_num, by simp [Hpl.out], ?_, .inr ⟨by omega, List.drop_of_length_le (Nat.le_refl _)⟩, by rw [List.length_drop]; omega, by rw [List.length_drop]; exact Hsl4.out, by rw [List.length_drop]; omega, Hown5.out, ?_, Hpi.out.push a2 c2 (r.take r.length) r.length Ht.out Hsl5.out, Hbe.out.upd (Nat.le_refl _) Hu5.out (fun _ h => h)⟩
            · rw [List.flatten_append]; simp; exact Hfl.out
            · intro b hb
              by_cases hbb : (Value.slice al k cl).ownBlock = some b
              · exact Hob.out b hbb
              · have h1 := Hb5.out b hbb hb
                have h2 := Hbe.out.size
                (try simp at h1); omega
          case measure => simp [intOf]; omega
      · 
        have hMr : r.length ≤ r.length := by omega
        obtain ⟨a4, _, hs4, _, hsl4, _⟩ := Hsl.out.cut Tryd.underlying24 size_byte r.length r.length hMr (Nat.le_refl _) hrc
        have hcut2 := fun w => hs4 w r.length rfl rfl
        simp only [Nat.mul_one] at hsl4
        have e4 : ((bytes r).drop r.length).take (r.length - r.length) = bytes (r.drop r.length) := by
          rw [List.take_of_length_le (by rw [List.length_drop, bytes_length]; exact Nat.le_refl _)]; simp [bytes, List.map_drop]
        rw [e4] at hsl4
        have Hsl4 := Lib.hid hsl4
        have Hsl5 := Lib.hid (Hsl.out.to hMr)
        have Ht := Lib.hid (show (r.take r.length).length = r.length by rw [List.length_take]; omega)
        clear hs4 hsl4 e4
        go_wp2_with (at_builtin; refine wpList_append_any rfl (.tmp 33) (.tmp 37) 44 rfl 24 i0 (.slice none 0 0) 1 24 Tryd.underlying44 hinf hz0 hz1 hz2 rfl (by decide) (.slice al k cl) k vs (.slice (some ⟨wr.heap.size, 0, none⟩) 1 1) 1 [.slice a2 r.length c2] rfl rfl (Hown.out.kept ((Upd.refl (fun _ => False) wr).alloc _) (fun _ _ => id)) (Sl.made _ _ _ _ _ _ _ _ rfl rfl (by omega)) (by simp [Value.oneCell']) (by omega) (by omega) ?_)
        intro a5 c5 w5 hown5 hgr5 hb5
        have hu5 : Upd (fun b => w.heap.size ≤ b) wr w5 := Upd.grown ((Upd.refl _ wr).alloc _) hgr5 (fun b hb _ => Hob.out b hb)
        have Hown5 := Lib.hid hown5
        have Hu5 := Lib.hid hu5
        have Hb5 := Lib.hid hb5
        clear hown5 hgr5 hb5 hu5
        go_wp2
        go_roundw
        case rel =>
          refine ⟨k + 1, r.drop r.length, a4, c2 - r.length, a5, c5, Ps ++ [r.take r.length], vs ++ [.slice a2 r.length c2], by rw [List.length_drop]; try simp, rfl, by go_num, by simp [Hpl.out], ?_, .inr ⟨by omega, List.drop_of_length_le (Nat.le_refl _)⟩, by rw [List.length_drop]; omega, by rw [List.length_drop]; exact Hsl4.out, by rw [List.length_drop]; omega, Hown5.out, ?_, Hpi.out.push a2 c2 (r.take r.length) r.length Ht.out Hsl5.out, Hbe.out.upd (Nat.le_refl _) Hu5.out (fun _ h => h)⟩
          · rw [List.flatten_append]; simp; exact Hfl.out
          · intro b hb
            by_cases hbb : (Value.slice al k cl).ownBlock = some b
            · exact Hob.out b hbb
            · have h1 := Hb5.out b hbb hb
              have h2 := Hbe.out.size
              (try simp at h1); omega
        case measure => simp [intOf]; omega
    · have hr0 : r = [] := List.eq_nil_of_length_eq_zero (by omega)
      have Hr0 := Lib.hid hr0
      have Hkk := Lib.hid (show k ≤ 101 by omega)
      clear hk hr0
      go_wp2
      go_ret
      refine ⟨al, cl, Ps, vs, ?_, ?_, ?_, by rw [Hpl.out]; exact Hkk.out, Hbe.out⟩
      · rw [Hpl.out]; first | rfl | skip
      · rw [Hpl.out]; exact ⟨Hown.out.sl, Hob.out, Hpi.out⟩
      · have h := Hfl.out; rw [Hr0.out, List.append_nil] at h; exact h
theorem cutUp_any (w : World) (a : Option Addr) (c : Nat) (l : List UInt8) (hl : Sl w 1 (.slice a l.length c) l.length (bytes l)) (hlc : l.length ≤ c) (hlen : l.length ≤ 32768) (vi : Value) (n : Nat) (hi : Ints w vi n) :
    Calls Tryd.prog 37 #[.slice a l.length c, vi] w fun e w' =>
      ∃ (ap : Option Addr) (cp : Nat) (Ps : List (List UInt8)), e = .returned (.slice ap Ps.length cp) ∧ Parts w' (.slice ap Ps.length cp) Ps ∧ Ps.flatten = l ∧ Ps.length ≤ 101 ∧ Below w.heap.size w w' :=
  (cutUp_at w w a c l hl hlc hlen vi n hi).mono fun e w' ⟨ap, cp, Ps, vs, he, hs, hf, hn, hb⟩ => ⟨ap, cp, Ps, he, hs.2.2.parts hb hs.1, hf, hn, hb⟩
end Go.Proofs.YtefobboakikpbaaDoor
