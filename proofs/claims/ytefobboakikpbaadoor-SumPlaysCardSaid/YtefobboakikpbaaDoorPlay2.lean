/- A side of the script of plays: its calls. -/
import Derived.Test.YtefobboakikpbaaDoorPlay1
import Derived.Deep.RegionHeld3
namespace Go.Proofs.YtefobboakikpbaaDoor
open Go.RowKit
set_option linter.unusedVariables false
set_option linter.unusedSimpArgs false

/-- At s lies a side, to which these bytes and these pieces were added; F: its blocks. -/
def SideAt (w : World) (s : Nat) (lh lp : List UInt8) (F : Nat → Prop) : Prop :=
  ∃ (ph q pp cb cp : Nat) (gh gp : Option Nat) (ab ap : Option Addr),
    w.heap[s]? = some (.cells #[.pointer (some ⟨ph, 0, none⟩), .pointer (some ⟨q, 0, none⟩), .slice ab lh.length cb, .slice ap lp.length cp] 40 (0, 0)) ∧
    HashAt w ph gh lh ∧ PiecesAt w q pp gp lp ∧ Own w 5 1 (.slice ab lh.length cb) lh.length (bytes lh) ∧ Own w 5 1 (.slice ap lp.length cp) lp.length (bytes lp) ∧
    ph ≠ pp ∧ (∀ k, gh = some k → gp ≠ some k) ∧ (∀ k, (Value.slice ab lh.length cb).ownBlock = some k → gh ≠ some k ∧ gp ≠ some k ∧ (Value.slice ap lp.length cp).ownBlock ≠ some k) ∧ (∀ k, (Value.slice ap lp.length cp).ownBlock = some k → gh ≠ some k ∧ gp ≠ some k) ∧
    (∀ k, gh = some k → k ≠ pp) ∧ (∀ k, gp = some k → k ≠ ph) ∧
    (∀ k, (k = s ∨ k = ph ∨ k = q ∨ k = pp ∨ gh = some k ∨ gp = some k ∨ (Value.slice ab lh.length cb).ownBlock = some k ∨ (Value.slice ap lp.length cp).ownBlock = some k) → F k) ∧
    (∀ k, F k → k < w.heap.size)

theorem SideAt.kept {S : Nat → Prop} {w w' : World} {s : Nat} {lh lp : List UInt8} {F : Nat → Prop} (h : SideAt w s lh lp F) (hu : Upd S w w') (hn : ∀ k, F k → ¬ S k) : SideAt w' s lh lp F := by
  obtain ⟨ph, q, pp, cb, cp, gh, gp, ab, ap, hrow, hh, hp, hob, hop, d1, d2, d3, d4, d5, d6, hF, hlt⟩ := h
  exact ⟨ph, q, pp, cb, cp, gh, gp, ab, ap, hu.at_ hrow (hn _ (hF _ (.inl rfl))), hh.kept hu (hn _ (hF _ (by simp))) (fun k hk => hn _ (hF _ (by simp [hk]))), hp.kept hu (hn _ (hF _ (by simp))) (hn _ (hF _ (by simp))) (fun k hk => hn _ (hF _ (by simp [hk]))), hob.kept hu (fun k hk => hn _ (hF _ (by simp [hk]))), hop.kept hu (fun k hk => hn _ (hF _ (by simp [hk]))), d1, d2, d3, d4, d5, d6, hF, fun k hk => Nat.lt_of_lt_of_le (hlt k hk) hu.size⟩
theorem SideAt.below {w w' : World} {s : Nat} {lh lp : List UInt8} {F : Nat → Prop} (h : SideAt w s lh lp F) (hb : Below w.heap.size w w') : SideAt w' s lh lp F :=
  h.kept (Upd.below hb fun _ => False) (fun _ _ => id)
/-- The cells of a call. -/
def OpC (C : Array Value) (kind which : Int) (a : Option Addr) (n c : Nat) (pc : List UInt8) : Prop :=
  C.toList = .int .i64 kind :: .int .i64 which :: .slice a n c :: bytes pc ∧ pc.length = 32
theorem OpC.size {C : Array Value} {kind which : Int} {a : Option Addr} {n c : Nat} {pc : List UInt8} (h : OpC C kind which a n c pc) : C.size = 35 := by
  rw [← Array.length_toList, h.1]; simp [bytes_length, h.2]
theorem OpC.at {C : Array Value} {kind which : Int} {a : Option Addr} {n c : Nat} {pc : List UInt8} (h : OpC C kind which a n c pc) (w : World) (g : Nat) (hg : w.heap[g]? = some (.cells C 35 (0, 0))) :
    w.cell? ⟨g, 0, none⟩ = some (.int .i64 kind) ∧ w.cell? ⟨g, 1, none⟩ = some (.int .i64 which) ∧ w.cell? ⟨g, 2, none⟩ = some (.slice a n c) ∧ w.rangeAt g 3 (bytes pc) := by
  have e : ∀ j, w.cell? ⟨g, j, none⟩ = C.toList[j]? := fun j => by rw [cell_of_row w g j _ _ _ hg]; simp
  refine ⟨by rw [e, h.1]; rfl, by rw [e, h.1]; rfl, by rw [e, h.1]; rfl, fun j v hv => ?_⟩
  rw [e, h.1, Nat.add_comm 3 j]
  exact hv
theorem plays2 (w : World) (s : Nat) (lh lp : List UInt8) (F : Nat → Prop) (h : SideAt w s lh lp F) (which : Int) (a : Option Addr) (c n : Nat) (pc : List UInt8) (C : Array Value) (hC : OpC C 2 which a n c pc) (hk : KeysAt w) (hlen : lh.length ≤ 70368744177664) :
    Calls Tryd.prog 19 #[.pointer (some ⟨s, 0, none⟩), .agg C] w fun e w' => e = .returned (.bool true) ∧ Below w.heap.size w w' := by
  obtain ⟨ph, q, pp, cb, cp, gh, gp, ab, ap, hrow, hh, hp, hob, hop, d1, d2, d3, d4, d5, d6, hF, hlt⟩ := h
  obtain ⟨n1, hn1⟩ : ∃ n1, n1 = lh.length := ⟨_, rfl⟩
  obtain ⟨n2, hn2⟩ : ∃ n2, n2 = lp.length := ⟨_, rfl⟩
  rw [← hn1, ← hn2] at hrow
  rw [← hn1] at hob
  rw [← hn2] at hop
  have Hn2 := Lib.hid hn2
  have Hh := Lib.hid hh
  have Hob := Lib.hid hob
  have HC := Lib.hid hC
  have Hk := Lib.hid hk
  have Hn1 := Lib.hid hn1
  have hcap : n1 ≤ cb := by
    rcases hob.2.2 with ⟨hv, h0⟩ | ⟨_, _, _, _, hv, _, hnc, _⟩
    · omega
    · injection hv with _ _ hc; omega
  have hCs := Lib.hid hC.size
  have hlen1 : n1 ≤ 70368744177664 := by omega
  obtain ⟨Cs, hCs2⟩ : ∃ Cs, Cs = (bytes (sha lh)).toArray := ⟨_, rfl⟩
  have q1 : ∀ w, (Op.equalIn 10000 26 (.agg Cs) (.agg Cs)).run Tryd.prog w = .ok true w := fun w => by rw [hCs2]; exact eq_sum _ rfl w
  have HCs := Lib.hid hCs2
  have Hrow := Lib.hid hrow
  clear hh hp hob hop d1 d2 d3 d4 d5 d6 hF hlt hC hk hn1 hn2 hCs2 hrow hlen
  obtain ⟨w1, hw1⟩ : ∃ w1, w1 = w.alloc (.cells C 35) := ⟨_, rfl⟩
  have hb1 : Below w.heap.size w w1 := by rw [hw1]; exact on_alloc (Below.refl _ _) _
  have hat := HC.out.at w1 w.heap.size (by rw [hw1]; exact heap_alloc_new _ _)
  obtain ⟨f0, f1, f2, f3⟩ := hat
  have hr1 := (hb1.block _ (lt_heap Hrow.out)).trans Hrow.out
  have s0 := cell_of_row w1 s 0 _ _ _ hr1
  have s1 := cell_of_row w1 s 1 _ _ _ hr1
  have s2 := cell_of_row w1 s 2 _ _ _ hr1
  have s3 := cell_of_row w1 s 3 _ _ _ hr1
  simp at s0 s1 s2 s3
  have Hb1 := Lib.hid hb1
  have F3 := Lib.hid f3
  clear hb1 hr1 f3
  go_enter Tryd.func19, Tryd.ntmps19
  rw [hw1] at f0 f1 f2 s0 s1 s2 s3
  go_wp2_with fail
  rw [← hw1] at f0 f1 f2 s0 s1 s2 s3 ⊢
  clear hw1
  have hsl1 : s < w1.heap.size := Nat.lt_of_lt_of_le (lt_heap Hrow.out) Hb1.out.size
  have HKS : Hid (∀ w', Below w1.heap.size w1 w' → Below w1.heap.size w1 w' ∧ w'.cell? ⟨s, 0, none⟩ = some (.pointer (some ⟨ph, 0, none⟩)) ∧ w'.cell? ⟨s, 1, none⟩ = some (.pointer (some ⟨q, 0, none⟩)) ∧ w'.cell? ⟨s, 2, none⟩ = some (.slice ab n1 cb) ∧ w'.cell? ⟨s, 3, none⟩ = some (.slice ap n2 cp)) :=
    fun w' h => ⟨h, (h.cell hsl1).trans s0, (h.cell hsl1).trans s1, (h.cell hsl1).trans s2, (h.cell hsl1).trans s3⟩
  have Hkn := Lib.hid (Below.refl w1.heap.size w1)
  go_region_held3 (fun w' => Below w1.heap.size w1 w' ∧ w'.cell? ⟨s, 0, none⟩ = some (.pointer (some ⟨ph, 0, none⟩)) ∧ w'.cell? ⟨s, 1, none⟩ = some (.pointer (some ⟨q, 0, none⟩)) ∧ w'.cell? ⟨s, 2, none⟩ = some (.slice ab n1 cb) ∧ w'.cell? ⟨s, 3, none⟩ = some (.slice ap n2 cp))
    (first | assumption | exact HKS.out _ Hkn.out | exact HKS.out _ (on_drew Hkn.out) | exact HKS.out _ (on_alloc Hkn.out _) | exact HKS.out _ (on_drew (on_alloc Hkn.out _)))
    (first
    | (go_at_call 13; go_split_ands; refine (sum_any _ ph gh lh ?_ ?_ (by rw [← Hn1.out]; omega)).mono ?_; exact Hh.out.kept (Upd.below (Hb1.out.trans (Below.mono (show Below w1.heap.size w1 _ by assumption) Hb1.out.size)) fun _ => False) id (fun _ _ => id); exact (Hk.out.below Hb1.out).below (by assumption); rintro e wn ⟨rfl, hbn⟩; rw [← HCs.out]; have Hkn := Lib.hid (below_on (show Below w1.heap.size w1 _ by assumption) hbn); clear hbn)
    | (go_at_call 22; go_split_ands; refine (refSHA_any _ ab cb n1 lh ?_ Hn1.out.symm hlen1).mono ?_; exact (Hob.out.sl.below Hb1.out).below (by assumption); rintro e wn ⟨rfl, hbn⟩; rw [← HCs.out]; have Hkn := Lib.hid (below_on (show Below w1.heap.size w1 _ by assumption) hbn); clear hbn))
  all_goals
    go_wp2
    go_ret
    exact ⟨rfl, Hb1.out.trans (Hkn.out.mono Hb1.out.size)⟩
theorem plays5 (w : World) (s : Nat) (lh lp : List UInt8) (F : Nat → Prop) (h : SideAt w s lh lp F) (which : Int) (a : Option Addr) (c n : Nat) (pc : List UInt8) (C : Array Value) (hC : OpC C 5 which a n c pc) (hk : KeysAt w) (hlen : lp.length ≤ 70368744177664) :
    Calls Tryd.prog 19 #[.pointer (some ⟨s, 0, none⟩), .agg C] w fun e w' => e = .returned (.bool true) ∧ Below w.heap.size w w' := by
  obtain ⟨ph, q, pp, cb, cp, gh, gp, ab, ap, hrow, hh, hp, hob, hop, d1, d2, d3, d4, d5, d6, hF, hlt⟩ := h
  obtain ⟨n1, hn1⟩ : ∃ n1, n1 = lh.length := ⟨_, rfl⟩
  obtain ⟨n2, hn2⟩ : ∃ n2, n2 = lp.length := ⟨_, rfl⟩
  rw [← hn1, ← hn2] at hrow
  rw [← hn1] at hob
  rw [← hn2] at hop
  have Hn2 := Lib.hid hn2
  have Hh := Lib.hid hp
  have Hob := Lib.hid hop
  have HC := Lib.hid hC
  have Hk := Lib.hid hk
  have Hn1 := Lib.hid hn1
  have hcap : n2 ≤ cp := by
    rcases hop.2.2 with ⟨hv, h0⟩ | ⟨_, _, _, _, hv, _, hnc, _⟩
    · omega
    · injection hv with _ _ hc; omega
  have hCs := Lib.hid hC.size
  have hlen1 : n2 ≤ 70368744177664 := by omega
  obtain ⟨Cs, hCs2⟩ : ∃ Cs, Cs = (bytes (sha lp)).toArray := ⟨_, rfl⟩
  have q1 : ∀ w, (Op.equalIn 10000 26 (.agg Cs) (.agg Cs)).run Tryd.prog w = .ok true w := fun w => by rw [hCs2]; exact eq_sum _ rfl w
  have HCs := Lib.hid hCs2
  have Hrow := Lib.hid hrow
  clear hh hp hob hop d1 d2 d3 d4 d5 d6 hF hlt hC hk hn1 hn2 hCs2 hrow hlen
  obtain ⟨w1, hw1⟩ : ∃ w1, w1 = w.alloc (.cells C 35) := ⟨_, rfl⟩
  have hb1 : Below w.heap.size w w1 := by rw [hw1]; exact on_alloc (Below.refl _ _) _
  have hat := HC.out.at w1 w.heap.size (by rw [hw1]; exact heap_alloc_new _ _)
  obtain ⟨f0, f1, f2, f3⟩ := hat
  have hr1 := (hb1.block _ (lt_heap Hrow.out)).trans Hrow.out
  have s0 := cell_of_row w1 s 0 _ _ _ hr1
  have s1 := cell_of_row w1 s 1 _ _ _ hr1
  have s2 := cell_of_row w1 s 2 _ _ _ hr1
  have s3 := cell_of_row w1 s 3 _ _ _ hr1
  simp at s0 s1 s2 s3
  have Hb1 := Lib.hid hb1
  have F3 := Lib.hid f3
  clear hb1 hr1 f3
  go_enter Tryd.func19, Tryd.ntmps19
  rw [hw1] at f0 f1 f2 s0 s1 s2 s3
  go_wp2_with fail
  rw [← hw1] at f0 f1 f2 s0 s1 s2 s3 ⊢
  clear hw1
  have hsl1 : s < w1.heap.size := Nat.lt_of_lt_of_le (lt_heap Hrow.out) Hb1.out.size
  have HKS : Hid (∀ w', Below w1.heap.size w1 w' → Below w1.heap.size w1 w' ∧ w'.cell? ⟨s, 0, none⟩ = some (.pointer (some ⟨ph, 0, none⟩)) ∧ w'.cell? ⟨s, 1, none⟩ = some (.pointer (some ⟨q, 0, none⟩)) ∧ w'.cell? ⟨s, 2, none⟩ = some (.slice ab n1 cb) ∧ w'.cell? ⟨s, 3, none⟩ = some (.slice ap n2 cp)) :=
    fun w' h => ⟨h, (h.cell hsl1).trans s0, (h.cell hsl1).trans s1, (h.cell hsl1).trans s2, (h.cell hsl1).trans s3⟩
  have Hkn := Lib.hid (Below.refl w1.heap.size w1)
  go_region_held3 (fun w' => Below w1.heap.size w1 w' ∧ w'.cell? ⟨s, 0, none⟩ = some (.pointer (some ⟨ph, 0, none⟩)) ∧ w'.cell? ⟨s, 1, none⟩ = some (.pointer (some ⟨q, 0, none⟩)) ∧ w'.cell? ⟨s, 2, none⟩ = some (.slice ab n1 cb) ∧ w'.cell? ⟨s, 3, none⟩ = some (.slice ap n2 cp))
    (first | assumption | exact HKS.out _ Hkn.out | exact HKS.out _ (on_drew Hkn.out) | exact HKS.out _ (on_alloc Hkn.out _) | exact HKS.out _ (on_drew (on_alloc Hkn.out _)))
    (first
    | (go_at_call 39; go_split_ands; refine (piecesSum_any _ q pp gp lp ?_ ?_ (by rw [← Hn2.out]; omega)).mono ?_; exact Hh.out.kept (Upd.below (Hb1.out.trans (Below.mono (show Below w1.heap.size w1 _ by assumption) Hb1.out.size)) fun _ => False) id id (fun _ _ => id); exact (Hk.out.below Hb1.out).below (by assumption); rintro e wn ⟨rfl, hbn⟩; rw [← HCs.out]; have Hkn := Lib.hid (below_on (show Below w1.heap.size w1 _ by assumption) hbn); clear hbn)
    | (go_at_call 22; go_split_ands; refine (refSHA_any _ ap cp n2 lp ?_ Hn2.out.symm hlen1).mono ?_; exact (Hob.out.sl.below Hb1.out).below (by assumption); rintro e wn ⟨rfl, hbn⟩; rw [← HCs.out]; have Hkn := Lib.hid (below_on (show Below w1.heap.size w1 _ by assumption) hbn); clear hbn))
  all_goals
    go_wp2
    go_ret
    exact ⟨rfl, Hb1.out.trans (Hkn.out.mono Hb1.out.size)⟩
theorem plays3 (w : World) (s : Nat) (lh lp : List UInt8) (F : Nat → Prop) (h : SideAt w s lh lp F) (which : Int) (a : Option Addr) (c n : Nat) (pc : List UInt8) (C : Array Value) (hC : OpC C 3 which a n c pc) (hk : KeysAt w) (hlen : lh.length ≤ 70368744177664) :
    Calls Tryd.prog 19 #[.pointer (some ⟨s, 0, none⟩), .agg C] w fun e w' => e = .returned (.bool true) ∧ Below w.heap.size w w' := by
  obtain ⟨ph, q, pp, cb, cp, gh, gp, ab, ap, hrow, hh, hp, hob, hop, d1, d2, d3, d4, d5, d6, hF, hlt⟩ := h
  obtain ⟨n1, hn1⟩ : ∃ n1, n1 = lh.length := ⟨_, rfl⟩
  obtain ⟨n2, hn2⟩ : ∃ n2, n2 = lp.length := ⟨_, rfl⟩
  rw [← hn1, ← hn2] at hrow
  rw [← hn1] at hob
  rw [← hn2] at hop
  have Hn2 := Lib.hid hn2
  have Hh := Lib.hid hh
  have Hob := Lib.hid hob
  have HC := Lib.hid hC
  have Hk := Lib.hid hk
  have Hn1 := Lib.hid hn1
  have hcap : n1 ≤ cb := by
    rcases hob.2.2 with ⟨hv, h0⟩ | ⟨_, _, _, _, hv, _, hnc, _⟩
    · omega
    · injection hv with _ _ hc; omega
  have hCs := Lib.hid hC.size
  have hlen1 : n1 ≤ 70368744177664 := by omega
  have q1 : ((n1 : Int) == (n1 : Int)) = true := by simp
  have Hrow := Lib.hid hrow
  clear hh hp hob hop d1 d2 d3 d4 d5 d6 hF hlt hC hk hn1 hn2 hrow hlen
  obtain ⟨w1, hw1⟩ : ∃ w1, w1 = w.alloc (.cells C 35) := ⟨_, rfl⟩
  have hb1 : Below w.heap.size w w1 := by rw [hw1]; exact on_alloc (Below.refl _ _) _
  have hat := HC.out.at w1 w.heap.size (by rw [hw1]; exact heap_alloc_new _ _)
  obtain ⟨f0, f1, f2, f3⟩ := hat
  have hr1 := (hb1.block _ (lt_heap Hrow.out)).trans Hrow.out
  have s0 := cell_of_row w1 s 0 _ _ _ hr1
  have s1 := cell_of_row w1 s 1 _ _ _ hr1
  have s2 := cell_of_row w1 s 2 _ _ _ hr1
  have s3 := cell_of_row w1 s 3 _ _ _ hr1
  simp at s0 s1 s2 s3
  have Hb1 := Lib.hid hb1
  have F3 := Lib.hid f3
  clear hb1 hr1 f3
  go_enter Tryd.func19, Tryd.ntmps19
  rw [hw1] at f0 f1 f2 s0 s1 s2 s3
  go_wp2_with fail
  rw [← hw1] at f0 f1 f2 s0 s1 s2 s3 ⊢
  clear hw1
  have hsl1 : s < w1.heap.size := Nat.lt_of_lt_of_le (lt_heap Hrow.out) Hb1.out.size
  have HKS : Hid (∀ w', Below w1.heap.size w1 w' → Below w1.heap.size w1 w' ∧ w'.cell? ⟨s, 0, none⟩ = some (.pointer (some ⟨ph, 0, none⟩)) ∧ w'.cell? ⟨s, 1, none⟩ = some (.pointer (some ⟨q, 0, none⟩)) ∧ w'.cell? ⟨s, 2, none⟩ = some (.slice ab n1 cb) ∧ w'.cell? ⟨s, 3, none⟩ = some (.slice ap n2 cp)) :=
    fun w' h => ⟨h, (h.cell hsl1).trans s0, (h.cell hsl1).trans s1, (h.cell hsl1).trans s2, (h.cell hsl1).trans s3⟩
  have Hkn := Lib.hid (Below.refl w1.heap.size w1)
  go_region_held3 (fun w' => Below w1.heap.size w1 w' ∧ w'.cell? ⟨s, 0, none⟩ = some (.pointer (some ⟨ph, 0, none⟩)) ∧ w'.cell? ⟨s, 1, none⟩ = some (.pointer (some ⟨q, 0, none⟩)) ∧ w'.cell? ⟨s, 2, none⟩ = some (.slice ab n1 cb) ∧ w'.cell? ⟨s, 3, none⟩ = some (.slice ap n2 cp))
    (first | assumption | exact HKS.out _ Hkn.out | exact HKS.out _ (on_drew Hkn.out) | exact HKS.out _ (on_alloc Hkn.out _) | exact HKS.out _ (on_drew (on_alloc Hkn.out _)))
    ((go_at_call 14; go_split_ands; refine (hashLen_any _ ph gh lh ?_).mono ?_; exact Hh.out.kept (Upd.below (Hb1.out.trans (Below.mono (show Below w1.heap.size w1 _ by assumption) Hb1.out.size)) fun _ => False) id (fun _ _ => id); rintro e wn ⟨rfl, hbn⟩; rw [← Hn1.out]; have Hkn := Lib.hid (below_on (show Below w1.heap.size w1 _ by assumption) hbn); clear hbn))
  all_goals
    go_wp2
    go_ret
    exact ⟨rfl, Hb1.out.trans (Hkn.out.mono Hb1.out.size)⟩
theorem plays0 (w : World) (s : Nat) (lh lp : List UInt8) (F : Nat → Prop) (h : SideAt w s lh lp F) (kind which : Int) (a : Option Addr) (c n : Nat) (pc : List UInt8) (C : Array Value) (hC : OpC C kind which a n c pc) (hk : KeysAt w) (k1 : kind ≠ 1) (k2 : kind ≠ 2) (k3 : kind ≠ 3) (k4 : kind ≠ 4) (k5 : kind ≠ 5) :
    Calls Tryd.prog 19 #[.pointer (some ⟨s, 0, none⟩), .agg C] w fun e w' => e = .returned (.bool true) ∧ Below w.heap.size w w' := by
  have HC := Lib.hid hC
  have hCs := Lib.hid hC.size
  have b1 : (kind == 1) = false := by simpa using k1
  have b2 : (kind == 2) = false := by simpa using k2
  have b3 : (kind == 3) = false := by simpa using k3
  have b4 : (kind == 4) = false := by simpa using k4
  have b5 : (kind == 5) = false := by simpa using k5
  clear hC hk h k1 k2 k3 k4 k5
  obtain ⟨f0, f1, f2, f3⟩ := HC.out.at (w.alloc (.cells C 35)) w.heap.size (heap_alloc_new _ _)
  have F3 := Lib.hid f3
  clear f3
  go_enter Tryd.func19, Tryd.ntmps19
  go_wp2
  go_ret
  exact ⟨rfl, on_alloc (Below.refl _ _) _⟩
end Go.Proofs.YtefobboakikpbaaDoor
