/- The contracts of sum.New and of a hash's Add. -/
import Derived.Test.YtefobboakikpbaaDoorSha2
namespace Go.Proofs.YtefobboakikpbaaDoor
open Go.RowKit
set_option linter.unusedVariables false
set_option linter.unusedSimpArgs false
theorem info_byte : (Tryd.prog.info? 5).map (fun i => (i.zero, i.size, i.bytes)) = some (some (.int .u8 0), 1, 1) := by kernel_rfl
theorem size_byte : ∀ w, (sizeOf (Tryd.prog.elem 24)).run Tryd.prog w = .ok 1 w := fun _ => by kernel_rfl

theorem block_any' (w : World) (s : St) (hs : s.Ok) (a : Option Addr) (c : Nat) (b : List UInt8) (hb : Sl w 1 (.slice a 64 c) 64 (bytes b)) (hl : b.length = 64) (hk : KeysAt w) :
    Calls Tryd.prog 42 #[.agg #[.int .u32 (s.a : Nat), .int .u32 (s.b : Nat), .int .u32 (s.c : Nat), .int .u32 (s.d : Nat), .int .u32 (s.e : Nat), .int .u32 (s.f : Nat), .int .u32 (s.g : Nat), .int .u32 (s.h : Nat)], .slice a 64 c] w fun e w' =>
      ∃ N : St, N = blockOf s b ∧ e = .returned (.agg #[.int .u32 (N.a : Nat), .int .u32 (N.b : Nat), .int .u32 (N.c : Nat), .int .u32 (N.d : Nat), .int .u32 (N.e : Nat), .int .u32 (N.f : Nat), .int .u32 (N.g : Nat), .int .u32 (N.h : Nat)]) ∧ Below w.heap.size w w' :=
  (block_any w s hs a c b hb hl hk).mono fun e w' ⟨he, hw⟩ => ⟨_, rfl, he, hw⟩

/-- The words with which a hash begins stand in the program's variable. -/
def BeginAt (w : World) : Prop := ∀ j u, (stCells start)[j]? = some u → w.cell? ⟨0, j, none⟩ = some u

/-- At p lies a hash to which l was added; what is left of it stands in block g. -/
def HashAt (w : World) (p : Nat) (g : Option Nat) (l : List UInt8) : Prop :=
  ∃ (s : St) (a : Option Addr) (c : Nat) (rest : List UInt8),
    w.heap[p]? = some (.cells #[.int .u32 (s.a : Nat), .int .u32 (s.b : Nat), .int .u32 (s.c : Nat), .int .u32 (s.d : Nat), .int .u32 (s.e : Nat), .int .u32 (s.f : Nat), .int .u32 (s.g : Nat), .int .u32 (s.h : Nat),
      .slice a rest.length c, .int .i64 l.length] 88 (0, 0)) ∧
    Own w 5 1 (.slice a rest.length c) rest.length (bytes rest) ∧ (Value.slice a rest.length c).ownBlock = g ∧ g ≠ some p ∧
    s = blocks start l (l.length / 64) ∧ rest = l.drop (64 * (l.length / 64))

theorem HashAt.kept {S : Nat → Prop} {w w' : World} {p : Nat} {g : Option Nat} {l : List UInt8} (h : HashAt w p g l) (hu : Upd S w w') (hp : ¬ S p) (hg : ∀ k, g = some k → ¬ S k) : HashAt w' p g l := by
  obtain ⟨s, a, c, rest, h1, h2, h3, h4, h5, h6⟩ := h
  exact ⟨s, a, c, rest, hu.at_ h1 hp, h2.kept hu (fun k hk => hg k (h3 ▸ hk)), h3, h4, h5, h6⟩
theorem HashAt.lt {w : World} {p : Nat} {g : Option Nat} {l : List UInt8} (h : HashAt w p g l) : p < w.heap.size ∧ ∀ k, g = some k → k < w.heap.size := by
  obtain ⟨s, a, c, rest, h1, h2, h3, h4, h5, h6⟩ := h
  exact ⟨lt_heap h1, fun k hk => h2.lt (h3.trans hk)⟩

theorem new_any (w : World) (hb : BeginAt w) :
    Calls Tryd.prog 11 #[] w fun e w' => e = .returned (.pointer (some ⟨w.heap.size, 0, none⟩)) ∧ HashAt w' w.heap.size none [] ∧ Below w.heap.size w w' ∧ w'.heap.size = w.heap.size + 1 := by
  have f0 := hb 0 _ rfl
  have f1 := hb 1 _ rfl
  have f2 := hb 2 _ rfl
  have f3 := hb 3 _ rfl
  have f4 := hb 4 _ rfl
  have f5 := hb 5 _ rfl
  have f6 := hb 6 _ rfl
  have f7 := hb 7 _ rfl
  simp only [start] at f0 f1 f2 f3 f4 f5 f6 f7
  clear hb
  go_enter Tryd.func11, Tryd.ntmps11
  go_wp2
  go_ret
  refine ⟨rfl, ⟨start, none, 0, [], ?_, Own.nil _ _ _, rfl, by simp, rfl, rfl⟩, (Below.refl _ _).alloc (Nat.le_refl _) _, by simp⟩
  exact heap_alloc_new _ _

/-- The eight words, and what is left, written over. -/
theorem set8' (w : World) (p : Nat) (T : TypeId) (c0 c1 c2 c3 c4 c5 c6 c7 c8 c9 : Value) (h : w.heap[p]? = some (.cells #[c0, c1, c2, c3, c4, c5, c6, c7, c8, c9] T (0, 0))) (v0 v1 v2 v3 v4 v5 v6 v7 v8 : Value) :
    (((((((((w.setCell ⟨p, 0, none⟩ v0).setCell ⟨p, 1, none⟩ v1).setCell ⟨p, 2, none⟩ v2).setCell ⟨p, 3, none⟩ v3).setCell ⟨p, 4, none⟩ v4).setCell ⟨p, 5, none⟩ v5).setCell ⟨p, 6, none⟩ v6).setCell ⟨p, 7, none⟩ v7).setCell ⟨p, 8, none⟩ v8).heap[p]? =
      some (.cells #[v0, v1, v2, v3, v4, v5, v6, v7, v8, c9] T (0, 0)) := by
  have h10 := heap_setCell_same _ p 0 _ _ v0 h
  simp at h10
  have h11 := heap_setCell_same _ p 1 _ _ v1 h10
  simp at h11
  have h12 := heap_setCell_same _ p 2 _ _ v2 h11
  simp at h12
  have h13 := heap_setCell_same _ p 3 _ _ v3 h12
  simp at h13
  have h14 := heap_setCell_same _ p 4 _ _ v4 h13
  simp at h14
  have h15 := heap_setCell_same _ p 5 _ _ v5 h14
  simp at h15
  have h16 := heap_setCell_same _ p 6 _ _ v6 h15
  simp at h16
  have h17 := heap_setCell_same _ p 7 _ _ v7 h16
  simp at h17
  have h18 := heap_setCell_same _ p 8 _ _ v8 h17
  simp at h18
  exact h18
set_option maxHeartbeats 4000000 in
set_option maxRecDepth 100000 in
theorem add_any (w : World) (p : Nat) (g : Option Nat) (l : List UInt8) (h : HashAt w p g l) (av : Option Addr) (cv : Nat) (x : List UInt8) (hx : Sl w 1 (.slice av x.length cv) x.length (bytes x)) (hk : KeysAt w)
    (hlen : l.length + x.length ≤ 70368744177664) (hp : 2 ≠ p) (hg : g ≠ some 2) :
    Calls Tryd.prog 12 #[.pointer (some ⟨p, 0, none⟩), .slice av x.length cv] w fun e w' => e = .returned (.tuple #[]) ∧
      ∃ g', HashAt w' p g' (l ++ x) ∧ (∀ k, g' = some k → g = some k ∨ w.heap.size ≤ k) ∧ Upd (fun k => k = p ∨ g = some k) w w' := by
  obtain ⟨i0, hi, hz0, hz1, hz2⟩ := info_parts info_byte
  obtain ⟨s, a, c, rest, hrow, hown, hgb, hgp, hs, hrest⟩ := h
  have f8 := cell_of_row w _ 8 _ _ _ hrow
  have f9 := cell_of_row w _ 9 _ _ _ hrow
  simp at f8 f9
  have g8 := frozen_of_row w _ 8 _ _ hrow
  have g9 := frozen_of_row w _ 9 _ _ hrow
  have Hrow := Lib.hid hrow
  have Hown := Lib.hid hown
  have Hs := Lib.hid hs
  have Hrest := Lib.hid hrest
  have hrl : rest.length ≤ l.length := by rw [hrest]; simp
  have hxp := bytes_apart hrow (by intro u hu n; simp at hu; rcases hu with rfl | rfl | rfl | rfl | rfl | rfl | rfl | rfl | rfl | rfl <;> simp) hx
  have Hx := Lib.hid hx
  have Hxp := Lib.hid hxp
  have Hk := Lib.hid hk
  have Hgb := Lib.hid hgb
  have Hgp := Lib.hid hgp
  have Hg := Lib.hid hg
  have hpl := lt_heap hrow
  clear hrow hown hs hrest hx hk hgb hxp hgp hg
  go_enter Tryd.func12, Tryd.ntmps12
  go_wp2_with (at_builtin; refine wpList_append_any rfl _ _ 24 rfl 5 i0 (.int .u8 0) 1 1 Tryd.underlying24 hi hz0 hz1 hz2 rfl (by decide) (.slice a rest.length c) rest.length (bytes rest) (.slice av x.length cv) x.length (bytes x) rfl rfl (Hown.out.kept ((Upd.refl (fun k => k = p) w).setCell _ _ (fun _ => rfl)) (fun k hk h => Hgp.out (by rw [← Hgb.out, hk, h]))) (Hx.out.kept ((Upd.refl (fun k => k = p) w).setCell _ _ (fun _ => rfl)) (fun k hk hne h => Hxp.out k hk hne h)) (bytes_one x) (by omega) (by omega) ?_)
  intro a1 c1 w1 hown1 hgr1 hb1
  have hrow0 := heap_setCell_same w p 9 _ _ (.int .i64 (l.length + x.length)) Hrow.out
  simp at hrow0
  have hu1 : Upd (fun k => k = p ∨ g = some k) w w1 := ((Upd.refl _ w).setCell ⟨p, 9, none⟩ (.int .i64 (l.length + x.length)) (fun _ => .inl rfl)).grown hgr1 (fun k hk _ => .inr (by rw [← Hgb.out, hk]))
  have hrow1 := (hgr1.block p (by simpa using hpl) (by rw [Hgb.out]; exact fun e => Hgp.out e.symm)).trans hrow0
  have hb1' : ∀ k, (Value.slice a1 (rest.length + x.length) c1).ownBlock = some k → g = some k ∨ w.heap.size ≤ k := by
    intro k hk
    by_cases h : (Value.slice a rest.length c).ownBlock = some k
    · exact .inl (by rw [← Hgb.out, h])
    · exact .inr (by simpa using hb1 k h hk)
  clear hrow0 hgr1 hb1
  have f8 := cell_of_row w1 _ 8 _ _ _ hrow1
  simp at f8
  have g8 := frozen_of_row w1 _ 8 _ _ hrow1
  have Hrow1 := Lib.hid hrow1
  have Hown1 := Lib.hid hown1
  clear hrow1 hown1 f9 g9
  go_wp2_with fail
  have hL : 64 * (l.length / 64) + (rest.length + x.length) = (l ++ x).length := by rw [Hrest.out]; simp; omega
  have hrow2 := heap_setCell_same w1 p 8 _ _ (.slice a1 (rest.length + x.length) c1) Hrow1.out
  simp at hrow2
  have hbl : blocks start (l ++ x) (l.length / 64) = s := by rw [blocks_append _ _ _ _ (by omega), Hs.out]
  have hdr : (l ++ x).drop (64 * (l.length / 64)) = rest ++ x := by rw [List.drop_append_of_le_length (by omega), Hrest.out]
  have HL := Lib.hid hL
  have Hrow2 := Lib.hid hrow2
  have Hbl := Lib.hid hbl
  have Hdr := Lib.hid hdr
  have Hu1 := Lib.hid hu1
  have Hb1 := Lib.hid hb1'
  have hp1 : p < w1.heap.size := Nat.lt_of_lt_of_le hpl hu1.size
  clear hL hrow2 hbl hdr hu1 hb1' f8 g8
  go_loopg [22] (rest.length + x.length) (fun n v wr => ∃ (d : Nat) (r : List UInt8) (a2 : Option Addr) (c2 : Nat) (s2 : St), n = r.length ∧ 64 * d + r.length = (l ++ x).length ∧ r = (l ++ x).drop (64 * d) ∧ s2 = blocks start (l ++ x) d ∧
      wr.heap[p]? = some (.cells #[.int .u32 (s2.a : Nat), .int .u32 (s2.b : Nat), .int .u32 (s2.c : Nat), .int .u32 (s2.d : Nat), .int .u32 (s2.e : Nat), .int .u32 (s2.f : Nat), .int .u32 (s2.g : Nat), .int .u32 (s2.h : Nat),
        .slice a2 r.length c2, .int .i64 (l ++ x).length] 88 (0, 0)) ∧
      Own wr 5 1 (.slice a2 r.length c2) r.length (bytes r) ∧ (∀ k, (Value.slice a2 r.length c2).ownBlock = some k → (Value.slice a1 (rest.length + x.length) c1).ownBlock = some k) ∧ Upd (fun k => k = p) w1 wr)
  case atStart =>
    refine ⟨l.length / 64, rest ++ x, a1, c1, s, by simp, by rw [List.length_append]; exact HL.out, Hdr.out.symm, Hbl.out.symm, ?_, ?_, ?_, (Upd.refl _ _).setCell _ _ (fun _ => rfl)⟩
    · rw [Hrow2.out]; simp
    · have h := Hown1.out.kept ((Upd.refl (fun k => k = p) w1).setCell ⟨p, 8, none⟩ (.slice a1 (rest.length + x.length) c1) (fun _ => rfl)) (fun k hk h => by
        rcases Hb1.out k hk with h1 | h1
        · exact Hgp.out (by rw [h1, h])
        · omega)
      simpa [bytes_append] using h
    · intro k hk; simpa using hk
  case round =>
    obtain ⟨d, r, a2, c2, s2, rfl, hdl, hrd, hsd, hrow, hown, hob, hu⟩ := hrel
    have hso : s2.Ok := by rw [hsd]; exact blocks_ok start_ok _ _
    have Hdl := Lib.hid hdl
    have Hrd := Lib.hid hrd
    have Hsd := Lib.hid hsd
    have Hown := Lib.hid hown
    have Hob := Lib.hid hob
    have Hu := Lib.hid hu
    have hrb : r.length ≤ 70368744177664 := by simp at hdl; omega
    have f8 := cell_of_row wr _ 8 _ _ _ hrow
    simp at f8
    clear hdl hrd hsd hown hob hu
    by_cases h64 : 64 ≤ r.length
    · 
      have f0 := cell_of_row wr _ 0 _ _ _ hrow
      have f1 := cell_of_row wr _ 1 _ _ _ hrow
      have f2 := cell_of_row wr _ 2 _ _ _ hrow
      have f3 := cell_of_row wr _ 3 _ _ _ hrow
      have f4 := cell_of_row wr _ 4 _ _ _ hrow
      have f5 := cell_of_row wr _ 5 _ _ _ hrow
      have f6 := cell_of_row wr _ 6 _ _ _ hrow
      have f7 := cell_of_row wr _ 7 _ _ _ hrow
      simp at f0 f1 f2 f3 f4 f5 f6 f7
      have Hrow := Lib.hid hrow
      clear hrow
      have hcap : r.length ≤ c2 := by
        rcases Hown.out.2.2 with ⟨hv, h0⟩ | ⟨_, _, _, _, hv, _, hnc, _⟩
        · omega
        · injection hv with _ _ hc; omega
      obtain ⟨a3, hs1, hs2, hs3, hsl, _⟩ := Hown.out.sl.cut Tryd.underlying24 size_byte 0 64 (by omega) h64 hcap
      have hcut := fun w => hs3 w 64 rfl rfl
      have hslB : Sl wr.drew 1 (.slice a3 64 c2) 64 (bytes (r.take 64)) := by
        have h := hsl.kept (Upd.refl (fun _ => False) wr).drew (fun _ _ _ => id)
        simp only [Nat.sub_zero, Nat.zero_mul, List.drop_zero, Nat.mul_one] at h
        rwa [show bytes (r.take 64) = (bytes r).take 64 from by simp [bytes, List.map_take]]
      have HslB := Lib.hid hslB
      have Hr64 : Hid ((r.take 64).length = 64) := by show _ = _; rw [List.length_take]; omega
      have HkB : Hid (KeysAt wr.drew) := fun i hi => (Hu.out.cell (Hu1.out.cell (Hk.out i hi) (by rintro (h | h); exact hp h; exact Hg.out h)) hp)
      have hpr : p < wr.heap.size := lt_heap Hrow.out
      obtain ⟨a4, hcut2, hown4, hob4, _⟩ := Hown.out.from Tryd.underlying24 size_byte 64 64 rfl h64
      have Hown4 := Lib.hid hown4
      have Hob4 := Lib.hid hob4
      clear hown4 hob4
      clear hs1 hs2 hs3 hsl hslB
      go_wp2_with fail
      go_region_with ((go_at_call 42; refine (block_any' wr.drew s2 hso a3 c2 (r.take 64) HslB.out Hr64.out HkB.out).mono ?_; rintro e wq ⟨N, hN, rfl, hbq⟩; have hrq := (hbq.block p hpr).trans Hrow.out; have HN := Lib.hid hN; clear hN; have k0 := cell_of_row wq _ 0 _ _ _ hrq; have k1 := cell_of_row wq _ 1 _ _ _ hrq; have k2 := cell_of_row wq _ 2 _ _ _ hrq; have k3 := cell_of_row wq _ 3 _ _ _ hrq; have k4 := cell_of_row wq _ 4 _ _ _ hrq; have k5 := cell_of_row wq _ 5 _ _ _ hrq; have k6 := cell_of_row wq _ 6 _ _ _ hrq; have k7 := cell_of_row wq _ 7 _ _ _ hrq; have k8 := cell_of_row wq _ 8 _ _ _ hrq; simp at k0 k1 k2 k3 k4 k5 k6 k7 k8; have z0 := frozen_of_row wq _ 0 _ _ hrq; have z1 := frozen_of_row wq _ 1 _ _ hrq; have z2 := frozen_of_row wq _ 2 _ _ hrq; have z3 := frozen_of_row wq _ 3 _ _ hrq; have z4 := frozen_of_row wq _ 4 _ _ hrq; have z5 := frozen_of_row wq _ 5 _ _ hrq; have z6 := frozen_of_row wq _ 6 _ _ hrq; have z7 := frozen_of_row wq _ 7 _ _ hrq; have z8 := frozen_of_row wq _ 8 _ _ hrq; have Hrq := Lib.hid hrq; have Hbq := Lib.hid hbq; clear hrq hbq f0 f1 f2 f3 f4 f5 f6 f7 f8))
      go_wp2
      all_goals
        refine Handed.intro (r.length - 64) (by omega) ?_
        go_step
        (repeat apply Exists.intro)
        refine ⟨?_, rfl⟩
        have hset := set8' wq p _ _ _ _ _ _ _ _ _ _ _ Hrq.out (.int .u32 (N.a : Nat)) (.int .u32 (N.b : Nat)) (.int .u32 (N.c : Nat)) (.int .u32 (N.d : Nat)) (.int .u32 (N.e : Nat)) (.int .u32 (N.f : Nat)) (.int .u32 (N.g : Nat)) (.int .u32 (N.h : Nat)) (.slice a4 (r.length - 64) (c2 - 64))
        have hrl2 : (r.drop 64).length = r.length - 64 := by simp
        have hup : Upd (fun k => k = p) wr wq := by
          have h : Upd (fun k => k = p) wr wr.drew := (Upd.refl _ _).drew
          exact h.trans (Upd.below Hbq.out _)
        refine ⟨d + 1, r.drop 64, a4, c2 - 64, N, by simp, by rw [hrl2]; have := Hdl.out; omega, ?_, ?_, ?_, ?_, ?_, ?_⟩
        · rw [Hrd.out, List.drop_drop]; congr 1
        · rw [HN.out, Hsd.out, Hrd.out]; rfl
        · rw [hrl2]; exact hset
        · rw [hrl2]
          have h : bytes (r.drop 64) = (bytes r).drop (64 * 1) := by simp [bytes, List.map_drop]
          rw [h]
          refine Hown4.out.kept (S := fun k => k = p) ?_ ?_
          · repeat (first | (with_reducible refine Upd.setCell ?_ _ _ (fun _ => rfl)) | (with_reducible refine Upd.drew ?_))
            exact hup
          · intro k hk hkp
            have h1 := Hob.out k (Hob4.out k hk)
            rcases Hb1.out k h1 with h2 | h2
            · exact Hgp.out (by rw [h2, hkp])
            · omega
        · rw [hrl2]; exact fun k hk => Hob.out k (Hob4.out k hk)
        · repeat (first | (with_reducible refine Upd.setCell ?_ _ _ (fun _ => rfl)) | (with_reducible refine Upd.drew ?_))
          exact Hu.out.trans hup
    · have Hrow := Lib.hid hrow
      clear hrow
      go_wp2
      go_end0
      have hd : d = (l ++ x).length / 64 := by have := Hdl.out; omega
      refine ⟨rfl, _, ⟨s2, a2, c2, r, Hrow.out, Hown.out, rfl, ?_, by rw [← hd]; exact Hsd.out, by rw [← hd]; exact Hrd.out⟩, ?_, ?_⟩
      · intro h
        rcases Hb1.out _ (Hob.out _ h) with h2 | h2
        · exact Hgp.out h2
        · omega
      · intro k hk; exact Hb1.out k (Hob.out k hk)
      · exact Hu1.out.trans (Hu.out.mono (fun i _ h => .inl h))
end Go.Proofs.YtefobboakikpbaaDoor
