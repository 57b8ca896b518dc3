/- The program's Find. -/
import Derived.Test.YtefobboakikpbaaFind5
import Derived.Carry
namespace Go.Proofs.Ytefobboakikpbaa
open Go.RowKit Go.Shelf Go.Maps
set_option linter.unusedVariables false
set_option linter.unusedSimpArgs false
theorem run_store_func (P : Program) (w : World) (a : Addr) (m : Mode) (f : Fn) (x y : Array Value) : (store a (.func f x y) m).run P w = stored P w a (.func f x y) m := run_store P w a _ m rfl
attribute [local go_sem] run_store_func

/-- Find's boxes, its map, the groups of the first k pieces. -/
structure Laid (W : World) (Bo Bm Bw base : Nat) (a : Option Addr) (n c : Nat) (old : List UInt8) (k : Nat) (g : Value → Option Value) : Prop where
  box : W.heap[Bo]? = some (.cells #[.slice a n c] 22 (0, 0))
  fn : W.heap[Bw]? = some (.cells #[.func (.func 16) #[] #[.pointer (some ⟨Bo, 0, none⟩)]] 41 (0, 0))
  map : MapAt W Try.prog 26 Bm k g
  gr : Groups W g old k base
  ord : Bo < base ∧ Bm < base ∧ Bw < base ∧ Bm ≠ Bo ∧ Bm ≠ Bw ∧ base ≤ W.heap.size
theorem Laid.kept {W W' : World} {Bo Bm Bw base : Nat} {a : Option Addr} {n c : Nat} {old : List UInt8} {k : Nat} {g : Value → Option Value} (h : Laid W Bo Bm Bw base a n c old k g) {S : Nat → Prop} (hu : Upd S W W') (hS : ∀ b, b < W.heap.size → ¬ S b) : Laid W' Bo Bm Bw base a n c old k g := by
  obtain ⟨o1, o2, o3, o4, o5, o6⟩ := h.ord
  exact ⟨hu.at_ h.box (hS _ (by omega)), hu.at_ h.fn (hS _ (by omega)), h.map.kept hu (hS _ (by omega)), h.gr.kept hu (fun b _ hb => hS b hb), o1, o2, o3, o4, o5, Nat.le_trans o6 hu.size⟩

set_option maxHeartbeats 8000000 in
set_option maxRecDepth 100000 in
theorem find_any (w : World) (a b : Option Addr) (c d n m : Nat) (old l : List UInt8) (hk : Sl w 1 (.slice a n c) n (bytes old)) (hl : Sl w 1 (.slice b m d) m (bytes l)) (hn : old.length = n) (hm : l.length = m) (hn2 : n ≤ 20000) (hm2 : m ≤ 20000) (hc : n ≤ c) (hd : m ≤ d) :
    Calls Try.prog 11 #[.slice a n c, .slice b m d] w fun e w' => ∃ a' c', e = .returned (.slice a' (finds old l 0).length c') ∧ Own w' 35 2 (.slice a' (finds old l 0).length c') (finds old l 0).length (fcells (finds old l 0)) ∧ Below w.heap.size w w' ∧
      (∀ k, (Value.slice a' (finds old l 0).length c').ownBlock = some k → w.heap.size ≤ k) := by
  obtain ⟨i0, hi, hz0, hz1, hz2⟩ := info_parts info_found
  obtain ⟨i1, hi1, hy0, hy1, hy2⟩ := info_parts info_int
  obtain ⟨F, hF⟩ : ∃ F, F = finds old l 0 := ⟨_, rfl⟩
  have hFl := finds_length old l 0
  rw [hm] at hFl
  obtain ⟨M, hM⟩ : ∃ M, M = old.length / 512 := ⟨_, rfl⟩
  have hM1 : 512 * M ≤ n := by omega
  have hM2 : n < 512 * M + 512 := by omega
  have hM3 : (n : Int) / 512 = (M : Int) := by omega
  have hM4 : (n : Int).tdiv 512 = (M : Int) := by rw [Int.tdiv_eq_ediv_of_nonneg (by omega)]; exact hM3
  rw [← hF] at hFl ⊢
  have Hk := Lib.hid hk
  have Hl := Lib.hid hl
  have Hn := Lib.hid hn
  have Hm := Lib.hid hm
  have HF := Lib.hid hF
  have HFl := Lib.hid hFl
  have HM := Lib.hid hM
  clear hk hl hn hm hF hFl hM
  have hmm := @run_makeMap Try.prog
  obtain ⟨W1, hW1⟩ : ∃ W1, W1 = ((w.alloc (.cells #[.slice a n c] 22)).alloc (.map #[] 0)).alloc (.cells #[.func (.func 16) #[] #[.pointer (some ⟨w.heap.size, 0, none⟩)]] 41) := ⟨_, rfl⟩
  have HW1 := Lib.hid hW1
  clear hW1
  go_enter Try.func11, Try.ntmps11
  go_wp2_with fail
  clear HW1
  go_loopw [20] (fun i wr => ∃ (k : Nat) (g : Value → Option Value), k ≤ M ∧ i = .int .i64 k ∧ Laid wr w.heap.size (w.heap.size + 1) (w.heap.size + 1 + 1) (w.heap.size + 1 + 1 + 1) a n c old k g ∧ Below w.heap.size w wr) (fun i _ => M - (intOf i).toNat)
  case atStart =>
    obtain ⟨h1, h2, h3⟩ := alloc3 w (.cells #[.slice a n c] 22) (.map #[] 0) (.cells #[.func (.func 16) #[] #[.pointer (some ⟨w.heap.size, 0, none⟩)]] 41)
    refine ⟨0, fun _ => none, Nat.zero_le _, rfl, ⟨h1, h3, ⟨#[], 0, h2, MapKept.stamped_empty 0, by simp, by simp, by simp⟩, Groups.start _ _ _, by omega, by omega, by omega, by omega, by omega, by simp⟩, on_alloc (on_alloc (on_alloc (Below.refl _ _) _) _) _⟩
  case round =>
    obtain ⟨k, g, hkM, rfl, hlaid, hbe⟩ := hrel
    have Hlaid := Lib.hid hlaid
    have Hbe := Lib.hid hbe
    clear hlaid hbe
    by_cases hlt : k < M
    · have hk512 : 512 * k + 512 ≤ old.length := by rw [Hn.out]; omega
      obtain ⟨ak, ck, hsk, hwh⟩ := whole_at wr w.heap.size a c old k (by rw [Hn.out]; exact Hlaid.out.box) (by rw [Hn.out]; exact Hk.out.below Hbe.out) (by rw [Hn.out]; exact hc) (by rw [Hn.out]; exact hn2) hk512
      have hpl := pieceAt_length old k hk512
      have hsl : Sl wr 1 (.slice ak 512 ck) (pieceAt old k).length (bytes (pieceAt old k)) := by rw [hpl]; exact hsk
      have Hsl := Lib.hid hsl
      have Hpl := Lib.hid hpl
      have Hk5 := Lib.hid hk512
      have Hwh := Lib.hid (hwh wr rfl)
      have f0 := cell_of_row wr _ 0 _ _ _ Hlaid.out.fn
      simp at f0
      obtain ⟨s, hs⟩ : ∃ s, s = weakSum (pieceAt old k) := ⟨_, rfl⟩
      have hkey := key_of_weak (pieceAt old k)
      rw [← hs] at hkey
      have Hkey := Lib.hid hkey
      clear hsl hpl hsk hwh hk512 hkey
      go_wp2_with fail
      refine Hwh.out.mono ?_
      rintro e w' ⟨rfl, hw⟩
      obtain rfl := hw.symm
      go_wp2_with fail
      refine (newRoller_win wr _ (pieceAt old k) Hsl.out (by rw [Hpl.out]; omega)).mono ?_
      rintro e w2 ⟨p, ar, cr, rfl, hp, hr, hR, hb2⟩
      have HR := Lib.hid hR
      have Hb2 := Lib.hid hb2
      clear hR hb2 hr f0
      go_wp2_with fail
      refine (rollerSum_win w2 p ar cr _ HR.out).mono ?_
      rintro e w3 ⟨rfl, hu3, _⟩
      rw [← hs]
      have hl3 := (Hlaid.out.kept (S := fun _ => False) (Upd.below Hb2.out _) (fun _ _ => id)).kept hu3 (fun _ _ => id)
      have Hbe3 := Lib.hid ((Hbe.out.upd (Nat.le_refl _) (Upd.below Hb2.out fun _ => False) (fun _ h => h.elim)).upd (Nat.le_refl _) hu3 (fun _ h => h.elim))
      have hsz3 := Hbe3.out.size
      obtain ⟨a5, c5, he, hown, hbase⟩ := hl3.gr.own s
      obtain ⟨ln, hln⟩ : ∃ ln, ln = (group old k s).length := ⟨_, rfl⟩
      have hlnk : ln ≤ k := by rw [hln]; exact group_length _ _ _
      rw [← hln] at he hown hbase
      have Hl3 := Lib.hid hl3
      have Hown := Lib.hid hown
      have Hbase := Lib.hid hbase
      have He := Lib.hid he
      have Hs := Lib.hid hs
      have Hln := Lib.hid hln
      clear hl3 hu3 hown hbase he hs hln hp
      go_wp2_with (first
        | (at_lookup; refine wpList_lookup_at rfl _ _ 40 rfl 26 42 key32 Try.underlying40 (.slice none 0 0) (zero_ints _) (w.heap.size + 1) k g rfl Hl3.out.map (.int .u32 s) _ rfl Hkey.out ?_; rw [show (g (.int .u32 s)).getD (.slice none 0 0) = .slice a5 ln c5 from He.out])
        | (at_builtin; refine wpList_append_any rfl _ _ 42 rfl 3 i1 (.int .i64 0) 1 8 Try.underlying42 hi1 hy0 hy1 hy2 rfl (by decide) (.slice a5 ln c5) ln (natv (group old k s)) (.slice (some ⟨w3.heap.size, 0, none⟩) 1 1) 1 [.int .i64 (k : Int)] rfl rfl (Hown.out.kept ((Upd.refl (fun _ => False) w3).alloc _) (fun _ _ => id)) (Sl.made w3 3 1 1 1 _ _ _ rfl rfl (by omega)) (by simp [Value.oneCell']) (by omega) (by omega) ?_))
      intro a10 c10 w10 hg10 hgr10 hb10
      have hu10 : Upd (fun b => (Value.slice a5 ln c5).ownBlock = some b) w3 w10 := ((Upd.refl _ _).alloc _).grown hgr10 (fun g hg _ => hg)
      have hord := Hl3.out.ord
      have hmap := Hl3.out.map.kept hu10 (fun h => by have := Hbase.out _ h; omega)
      have hgr : Groups w10 (putAt g (.int .u32 s) (.slice a10 (ln + 1) c10)) old (k + 1) (w.heap.size + 1 + 1 + 1) := by
        have h1 := Hl3.out.gr.step (w' := w10) Hs.out (a' := a10) (c' := c10) (by rw [← Hln.out]; exact hg10) (hu10.mono (fun b _ h => by rw [He.out]; exact h)) hord.2.2.2.2.2 (fun b h1 h2 => by
          have := hb10 b (by rw [← He.out]; exact h1) (by rw [Hln.out]; exact h2)
          (try simp at this)
          omega)
        rw [← Hln.out] at h1
        exact h1
      have hbox := hu10.at_ Hl3.out.box (fun h => by have := Hbase.out _ h; omega)
      have hfn := hu10.at_ Hl3.out.fn (fun h => by have := Hbase.out _ h; omega)
      have Hmap := Lib.hid hmap
      have Hgr := Lib.hid hgr
      have Hbf := Lib.hid (And.intro hbox hfn)
      have Hbe10 := Lib.hid (Hbe3.out.upd (Nat.le_refl _) hu10 (fun b h => by have := Hbase.out _ h; omega))
      have Hord := Lib.hid hord
      have hsz10 := hu10.size
      clear hmap hgr hbox hfn hu10 hgr10 hb10 hg10 hord
      go_wp2_with (at_mapUpdate; refine wpList_mapUpdate_at rfl _ _ _ 40 rfl 26 42 key32 Try.underlying40 (w.heap.size + 1) k g rfl Hmap.out (.int .u32 s) (.slice a10 (ln + 1) c10) _ rfl rfl Hkey.out ?_)
      intro w11 hm11 hu11
      have Hl11 : Hid (Laid w11 w.heap.size (w.heap.size + 1) (w.heap.size + 1 + 1) (w.heap.size + 1 + 1 + 1) a n c old (k + 1) (putAt g (.int .u32 s) (.slice a10 (ln + 1) c10))) :=
        ⟨hu11.at_ Hbf.out.1 (by omega), hu11.at_ Hbf.out.2 (by omega), hm11, Hgr.out.kept hu11 (fun b h1 _ => by omega), by have := Hord.out; have := hu11.size; omega⟩
      have Hbe11 := Lib.hid (Hbe10.out.upd (Nat.le_refl _) hu11 (fun b h => by omega))
      clear hm11 hu11
      go_wp2
      go_roundw
      case rel => exact ⟨k + 1, _, hlt, by go_num, Hl11.out, Hbe11.out⟩
      case measure => simp [intOf]; omega
    · obtain rfl : k = M := by omega
      clear hlt
      have HW2 := Lib.hid Hbe.out.size
      go_wp2_with fail
      have Hfn5 := Lib.hid (enters_of (P := Try.prog) Try.func18 (by kernel_rfl) rfl)
      clear hM3 hM4
      go_loopw [9, 10] (fun v i wq => ∃ (p : Nat) (L : List (Nat × Nat)) (a5 : Option Addr) (c5 : Nat), p ≤ m ∧ i = .int .i64 p ∧ v = .slice a5 L.length c5 ∧ Own wq 35 2 (.slice a5 L.length c5) L.length (fcells L) ∧ L ++ finds old l p = F ∧ Upd (fun b => wr.heap.size ≤ b) wr wq ∧ (∀ g, (Value.slice a5 L.length c5).ownBlock = some g → wr.heap.size ≤ g))
        (fun _ i _ => m - (intOf i).toNat)
      case atStart => exact ⟨0, [], none, 0, Nat.zero_le _, rfl, rfl, Own.nil _ _ _, by rw [HF.out]; rfl, Upd.refl _ _, fun k hk => by simp [Value.ownBlock] at hk⟩
      case round =>
        rename World => wq
        obtain ⟨p, L, a5, c5, hp, rfl, rfl, hown, hL, hu, hnew⟩ := hrel
        have Hown := Lib.hid hown
        have HL := Lib.hid hL
        have Hu := Lib.hid hu
        have Hnew := Lib.hid hnew
        have Hold := Lib.hid (fun g (hg : (Value.slice a5 L.length c5).ownBlock = some g) => hown.lt hg)
        clear hown hL hu hnew
        by_cases hlt : p + 512 ≤ m
        · have Hbq := Lib.hid (Hbe.out.upd (Nat.le_refl _) Hu.out (fun b h => Nat.le_trans HW2.out h))
          obtain ⟨ab, cb, hcb, hsb, _, _⟩ := cut_at wq b m d l (Hl.out.below Hbq.out) hd p hlt
          have q1 := fun w => hcb w (p : Int) ((p : Int) + 512) rfl (by omega)
          have hwl := winAt_length l p (by rw [Hm.out]; exact hlt)
          have Hsb := Lib.hid (show Sl wq 1 (.slice ab 512 cb) (winAt l p).length (bytes (winAt l p)) by rw [hwl]; exact hsb)
          have Hwl := Lib.hid hwl
          have HLl : L.length ≤ 41 := by
            have h1 := HFl.out
            rw [← HL.out, List.length_append] at h1
            omega
          clear hcb hsb hwl
          go_wp2_with fail
          refine (newRoller_win wq _ (winAt l p) Hsb.out (by rw [Hwl.out]; omega)).mono ?_
          rintro e w2 ⟨pr, ar, cr, rfl, hpr, hring, hR, hb2⟩
          have HR := Lib.hid hR
          have Hring := Lib.hid (fun g (hg : (Value.slice ar 512 cr).ownBlock = some g) => hring g (by rw [blk _ _ _ 512 cr]; exact hg))
          have Hu2 := Lib.hid (Hu.out.then (Upd.below hb2 (fun _ => False)) (fun _ _ h => h.elim))
          have Hown := Lib.hid (Hown.out.kept (Upd.below hb2 (fun _ => False)) (fun _ _ => id))
          have hq0 := Hu.out.size
          have hw20 := hb2.size
          clear hR hring hb2 q1
          go_wp2_with fail
          go_loopw [9, 10] (fun v i wz => ∃ q : Nat, q + 512 ≤ m ∧ i = .int .i64 q ∧ v = .slice a5 L.length c5 ∧ RollW wz pr ar cr (winAt l q) ∧ L ++ finds old l q = F ∧ Upd (fun b => wr.heap.size ≤ b) wr wz ∧ Own wz 35 2 (.slice a5 L.length c5) L.length (fcells L) ∧ wq.heap.size ≤ wz.heap.size ∧ p ≤ q) (fun _ i _ => m - (intOf i).toNat)
          case atStart => exact ⟨p, hlt, rfl, rfl, HR.out, HL.out, Hu2.out, Hown.out, hw20, Nat.le_refl _⟩
          case round =>
            clear HR Hu2 Hown
            rename World => wz
            obtain ⟨q, hqm, rfl, rfl, hR, hLq, huz, hown, hszz, hpq⟩ := hrel
            have hbz := Hbe.out.upd (Nat.le_refl _) huz (fun b h => Nat.le_trans HW2.out h)
            obtain ⟨ah, ch, hch, hsh, _, _⟩ := cut_at wz b m d l (Hl.out.below hbz) hd q hqm
            have q1 := fun w => hch w (q : Int) ((q : Int) + 512) rfl (by omega)
            have HR := Lib.hid (hR.kept ((Upd.refl (fun _ => False) wz).alloc (.cells #[.slice ah 512 ch] 22)) id (fun _ _ => id))
            have HLq := Lib.hid hLq
            have Huz := Lib.hid (huz.alloc (.cells #[.slice ah 512 ch] 22))
            have Hown := Lib.hid (hown.kept ((Upd.refl (fun _ => False) wz).alloc (.cells #[.slice ah 512 ch] 22)) (fun _ _ => id))
            have Hsh := Lib.hid (hsh.kept ((Upd.refl (fun _ => False) wz).alloc (.cells #[.slice ah 512 ch] 22)) (fun _ _ _ => id))
            have Hbox := Lib.hid (heap_alloc_new wz (.cells #[.slice ah 512 ch] 22))
            have Hbz := Lib.hid (on_alloc hbz (.cells #[.slice ah 512 ch] 22))
            have Hwl := Lib.hid (winAt_length l q (by rw [Hm.out]; exact hqm))
            obtain ⟨s, hs⟩ : ∃ s, s = weakSum (winAt l q) := ⟨_, rfl⟩
            have hkey := key_of_weak (winAt l q)
            rw [← hs] at hkey
            have Hkey := Lib.hid hkey
            have Hs := Lib.hid hs
            clear hch hsh hR hLq huz hown hbz hkey
            go_wp2_with fail
            refine (rollerSum_win _ pr ar cr _ HR.out).mono ?_
            rintro e w4 ⟨rfl, hu4, hR4⟩
            have HR := Lib.hid hR4
            have Hown := Lib.hid (Hown.out.kept hu4 (fun _ _ => id))
            have Hsh := Lib.hid (Hsh.out.kept hu4 (fun _ _ _ => id))
            have Hbox := Lib.hid (hu4.at_ Hbox.out id)
            have Huz := Lib.hid (Huz.out.then hu4 (fun _ _ h => h.elim))
            have Hbz := Lib.hid (Hbz.out.upd (Nat.le_refl _) hu4 (fun _ h => h.elim))
            have hsz4 := hu4.size
            simp only [World.size_alloc] at hsz4
            have Hl4 := Lib.hid (Hlaid.out.kept Huz.out (fun b hb h => by omega))
            obtain ⟨a6, c6, he6, hown6, _⟩ := Hl4.out.gr.own s
            obtain ⟨zs, hzs⟩ : ∃ zs, zs = group old k s := ⟨_, rfl⟩
            obtain ⟨ln, hln⟩ : ∃ ln, ln = zs.length := ⟨_, rfl⟩
            rw [← hzs, ← hln] at he6 hown6
            have hlnk : ln ≤ k := by rw [hln, hzs]; exact group_length _ _ _
            have He6 := Lib.hid he6
            have Hown6 := Lib.hid hown6
            have Hzs := Lib.hid hzs
            have Hln := Lib.hid hln
            rw [← hs]
            have Hix := Lib.hid (indexFunc_any w4 a6 ln c6 zs hown6.sl hln.symm (by omega) 18 #[.pointer (some ⟨w.heap.size + 1 + 1, 0, none⟩), .pointer (some ⟨wz.heap.size, 0, none⟩)] Hfn5.out (fun j => decide (pieceAt old j = winAt l q)) (fun W i hi hW => by
              have hW2 := Hl4.out.kept hW (fun _ _ => id)
              have hmem : zs.getD i 0 ∈ group old k s := by
                rw [← hzs, List.getD_eq_getElem?_getD, List.getElem?_eq_getElem (by rw [← hln]; exact hi)]
                exact List.getElem_mem _
              have hlt6 := group_lt hmem
              exact find2_any W w.heap.size (w.heap.size + 1 + 1) wz.heap.size a ah c ch old (winAt l q) (zs.getD i 0) (by rw [Hn.out]; exact hW2.box) (by rw [Hn.out]; exact (Hk.out.below (Hbz.out)).kept hW (fun _ _ _ => id)) (by rw [Hn.out]; exact hc) (by rw [Hn.out]; exact hn2) (by rw [Hn.out]; omega) hW2.fn (hW.at_ Hbox.out id) (Hsh.out.kept hW (fun _ _ _ => id)) Hwl.out))
            clear hu4 hR4 he6 hown6 hzs hln hs
            go_wp2_with (at_lookup; refine wpList_lookup_at rfl _ _ 40 rfl 26 42 key32 Try.underlying40 (.slice none 0 0) (zero_ints _) (w.heap.size + 1) k g rfl Hl4.out.map (.int .u32 s) _ rfl Hkey.out ?_; rw [show (g (.int .u32 s)).getD (.slice none 0 0) = .slice a6 ln c6 from He6.out])
            refine Hix.out.mono ?_
            rintro e w5 ⟨r, rfl, hr, hu5⟩
            have HR := Lib.hid (HR.out.kept hu5 id (fun _ _ => id))
            have Hown := Lib.hid (Hown.out.kept hu5 (fun _ _ => id))
            have Hown6 := Lib.hid (Hown6.out.kept hu5 (fun _ _ => id))
            have Huz := Lib.hid (Huz.out.then hu5 (fun _ _ h => h.elim))
            have Hbz := Lib.hid (Hbz.out.upd (Nat.le_refl _) hu5 (fun _ h => h.elim))
            have hsz5 := hu5.size
            clear hu5 Hix Hsh Hbox Hl4 He6
            rcases hr with ⟨rfl, hno⟩ | ⟨i, rfl, hi6, hyes, hbefore⟩
            · have Hmiss := Lib.hid (finds_miss (old := old) (b := l) (i := q) (by rw [Hm.out]; exact hqm) (hit_not (by rw [← HM.out, ← Hs.out]; exact Hzs.out) (fun j hj => of_decide_eq_false (hno j (by rw [Hln.out]; exact hj)))))
              clear hno
              by_cases hlast : q + 1 + 512 ≤ m
              · obtain ⟨gb, ob, rfl, _, hcl⟩ := (Hl.out.below Hbz.out).open_ (by rw [bytes_length, Hm.out]; omega)
                have fx := hcl (q + 512) _ (bytes_getD l (q + 512) (by rw [Hm.out]; omega))
                obtain ⟨x, hx⟩ : ∃ x, x = l.getD (q + 512) 0 := ⟨_, rfl⟩
                rw [← hx] at fx
                have hst := winAt_step l q (by rw [Hm.out]; omega)
                rw [← hx] at hst
                have Hst := Lib.hid hst
                have l1 : ¬ ((m : Int) < (q : Int) + 1 + 512) := by omega
                clear hcl hst hx q1
                go_wp2_with fail
                refine (rollerNext_win w5 pr ar cr (winAt l q) x _ rfl HR.out).mono ?_
                rintro e w6 ⟨rfl, hR6, hu6⟩
                rw [Hst.out] at hR6
                have hS6 : ∀ b, (b = pr ∨ (Value.slice ar (winAt l q).length cr).ownBlock = some b) → wq.heap.size ≤ b := by
                  intro b hb
                  rcases hb with rfl | hb
                  · exact hpr
                  · exact Hring.out b (by rw [blk _ _ _ (winAt l q).length cr]; exact hb)
                have HR6 := Lib.hid hR6
                have Hown6 := Lib.hid (Hown.out.kept hu6 (fun b hb h => by have := hS6 b h; have := Hold.out b hb; omega))
                have Huz6 := Lib.hid (Huz.out.then hu6 (fun b _ h => Nat.le_trans hq0 (hS6 b h)))
                have hsz6 := hu6.size
                clear hR6 hu6 hS6 fx
                go_wp2
                go_roundw
                case rel => exact ⟨q + 1, hlast, by go_num, rfl, HR6.out, by rw [← Hmiss.out]; exact HLq.out, Huz6.out, Hown6.out, by omega, by omega⟩
                case measure => simp [intOf]; omega
              · have l1 : (m : Int) < (q : Int) + 1 + 512 := by omega
                clear q1
                go_wp2
                go_roundw
                case rel => exact ⟨q + 1, L, a5, c5, by omega, by go_num, rfl, Hown.out, by rw [← Hmiss.out]; exact HLq.out, Huz.out, Hnew.out⟩
                case measure => simp [intOf]; omega
            · have hz6 : zs.getD i 0 = zs.getD i 0 := rfl
              obtain ⟨z, hz⟩ : ∃ z, z = zs.getD i 0 := ⟨_, rfl⟩
              have Hhit := Lib.hid (finds_hit (old := old) (b := l) (i := q) (by rw [Hm.out]; exact hqm) (hit_at (by rw [← HM.out, ← Hs.out]; exact Hzs.out) (by rw [← Hln.out]; exact hi6) (of_decide_eq_true hyes) (fun j hj => of_decide_eq_false (hbefore j hj))))
              rw [← hz] at Hhit
              obtain ⟨g6, o6, rfl, _, hcl⟩ := Hown6.out.sl.open_ (by rw [natv_length, ← Hln.out]; omega)
              have fx := hcl i _ (natv_get zs i (by rw [← Hln.out]; exact hi6))
              rw [← hz] at fx
              have i1 : (0 : Int) ≤ (i : Int) := by omega
              have i2 : (i : Int) < (ln : Int) := by omega
              clear hcl hyes hbefore hz hz6 q1
              go_wp2_with (at_builtin; refine wpList_append_any rfl _ _ 31 rfl 35 i0 (.agg #[.int .i64 0, .int .i64 0]) 2 16 Try.underlying31 hi hz0 hz1 hz2 rfl (by decide) (.slice a5 L.length c5) L.length (fcells L) (.slice (some ⟨w5.heap.size, 0, none⟩) 1 1) 1 (fcells [(q, z)]) rfl rfl (Hown.out.kept ((Upd.refl (fun _ => False) w5).alloc _) (fun _ _ => id)) (Sl.made w5 35 2 1 1 _ _ _ rfl rfl (by omega)) (fcells_one _) (by omega) (by omega) ?_)
              intro a10 c10 w10 hg10 hgr10 hb10
              have hb10' : ∀ g, (Value.slice a10 (L.length + 1) c10).ownBlock = some g → wr.heap.size ≤ g := by
                intro g hg
                by_cases h : (Value.slice a5 L.length c5).ownBlock = some g
                · exact Hnew.out g h
                · have := hb10 g h hg
                  have : w5.heap.size + 1 ≤ g := by simpa using this
                  omega
              have Hu10 := Lib.hid ((Huz.out.alloc _).grown hgr10 (fun g hg _ => Hnew.out g hg))
              have hg10 : Own w10 35 2 (.slice a10 (L ++ [(q, z)]).length c10) (L ++ [(q, z)]).length (fcells (L ++ [(q, z)])) := by
                rw [fcells_append]; simpa using hg10
              have Hg10 := Lib.hid hg10
              have Hb10 := Lib.hid hb10'
              have HL2 := Lib.hid (show (L ++ [(q, z)]) ++ finds old l (q + 512) = F by rw [← HLq.out, Hhit.out]; simp)
              have el : L.length + 1 = (L ++ [(q, z)]).length := by simp
              clear hg10 hb10' hgr10 hb10 fx
              rw [el]
              rw [el] at Hb10
              go_wp2
              go_roundw
              case rel => exact ⟨q + 512, L ++ [(q, z)], a10, c10, hqm, by go_num, rfl, Hg10.out, HL2.out, Hu10.out, Hb10.out⟩
              case measure => simp [intOf]; omega
        · have HE := Lib.hid (show L = F by rw [← HL.out, finds_end (by rw [Hm.out]; omega), List.append_nil])
          have hd1 : ¬ ((p : Int) + 512 ≤ (m : Int)) := by omega
          have Hb9 := Lib.hid (Hbe.out.upd (Nat.le_refl _) Hu.out (fun b h => Nat.le_trans HW2.out h))
          have Hnew := Lib.hid (fun g (hg : (Value.slice a5 L.length c5).ownBlock = some g) => Nat.le_trans HW2.out (Hnew.out g hg))
          clear HL
          obtain rfl := HE.out
          go_wp2
          go_ret
          exact ⟨_, _, rfl, Hown.out, Hb9.out, Hnew.out⟩
end Go.Proofs.Ytefobboakikpbaa
