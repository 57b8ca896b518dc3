/- The contract of a hash's Sum. -/
import Derived.Test.YtefobboakikpbaaDoorSha3
import Derived.Laws.CopyOwn
import Derived.Laws.Tables
namespace Go.Proofs.YtefobboakikpbaaDoor
open Go.RowKit
set_option linter.unusedVariables false
set_option linter.unusedSimpArgs false

theorem be8_byte (n b : Nat) : #[Value.int .u8 ((n : Int) * 8 / 2 ^ (8 * (7 - b)) % 256)].toList = bytes [UInt8.ofNat (8 * n / 2 ^ (8 * (7 - b)))] := by
  have e : ((n : Int) * 8 / 2 ^ (8 * (7 - b)) % 256) = ((8 * n / 2 ^ (8 * (7 - b)) % 256 : Nat) : Int) := by
    rw [Nat.mul_comm 8 n]
    simp only [Int.natCast_emod, Int.natCast_ediv, Int.natCast_mul, Int.natCast_pow]
    rfl
  rw [e]
  simp [bytes, UInt8.toNat_ofNat']
/-- A list of the call's own that grows byte by byte, beside the block in which the answer is to lie. -/
def Buf (w : World) (Z : Array Value) (wr : World) (v : Value) (n : Nat) (l : List UInt8) : Prop :=
  Own wr 5 1 v n (bytes l) ∧ (∀ k, v.ownBlock = some k → w.heap.size < k) ∧ Upd (fun _ => False) w wr ∧ wr.heap[w.heap.size]? = some (.cells Z 26 (0, 0))
theorem Buf.push {w wr w' : World} {Z : Array Value} {v v' : Value} {n : Nat} {l : List UInt8} {x : UInt8} (h : Buf w Z wr v n l) (o : Obj) (hown : Own w' 5 1 v' (n + 1) (bytes l ++ bytes [x]))
    (hgr : (wr.alloc o).grownBy w' v.ownBlock) (hb : ∀ k, ¬ v.ownBlock = some k → v'.ownBlock = some k → wr.heap.size + 1 ≤ k) : Buf w Z w' v' (n + 1) (l ++ [x]) := by
  obtain ⟨h1, h2, h3, h4⟩ := h
  have hlt := lt_heap h4
  refine ⟨by rw [bytes_append]; exact hown, fun k hk => ?_, (h3.alloc o).grown hgr (fun k hk hlt => ?_), ?_⟩
  · by_cases hv : v.ownBlock = some k
    · exact h2 k hv
    · have := hb k hv hk; omega
  · have := h2 k hk; omega
  · rw [hgr.block w.heap.size (by simp; omega) (fun e => by have := h2 _ e.symm; omega), Below.heap_alloc wr o _ hlt]; exact h4

theorem index8 (R : St) (k : Nat) (w : World) (hk : k < 8) : (Instr.index 86 (.agg #[.int .u32 (R.a : Nat), .int .u32 (R.b : Nat), .int .u32 (R.c : Nat), .int .u32 (R.d : Nat), .int .u32 (R.e : Nat), .int .u32 (R.f : Nat), .int .u32 (R.g : Nat), .int .u32 (R.h : Nat)]) (.int .i64 k)).run Tryd.prog w = .ok (.int .u32 ((stList R).getD k 0 : Nat)) w := by
  rcases (by omega : k = 0 ∨ k = 1 ∨ k = 2 ∨ k = 3 ∨ k = 4 ∨ k = 5 ∨ k = 6 ∨ k = 7) with rfl | rfl | rfl | rfl | rfl | rfl | rfl | rfl <;> kernel_rfl
/-- The answer's array behind k words. -/
def outCells (R : St) (k : Nat) : Array Value := (bytes (((stList R).take k).flatMap four) ++ List.replicate (32 - 4 * k) (Value.int .u8 0)).toArray
theorem outPre_length (R : St) (k : Nat) (hk : k ≤ 8) : (((stList R).take k).flatMap four).length = 4 * k := by
  rcases (by omega : k = 0 ∨ k = 1 ∨ k = 2 ∨ k = 3 ∨ k = 4 ∨ k = 5 ∨ k = 6 ∨ k = 7 ∨ k = 8) with rfl | rfl | rfl | rfl | rfl | rfl | rfl | rfl | rfl <;> rfl
theorem outCells_size (R : St) (k : Nat) (hk : k ≤ 8) : (outCells R k).size = 32 := by
  simp [outCells, bytes_length, outPre_length R k hk]; omega
theorem outCells_some (R : St) (k : Nat) (hk : k ≤ 8) (j : Nat) (hj : j < 32) : ∃ y, (outCells R k)[j]? = some y :=
  ⟨_, Array.getElem?_eq_getElem (by rw [outCells_size R k hk]; exact hj)⟩
theorem outCells_zero (R : St) : outCells R 0 = #[.int .u8 0, .int .u8 0, .int .u8 0, .int .u8 0, .int .u8 0, .int .u8 0, .int .u8 0, .int .u8 0, .int .u8 0, .int .u8 0, .int .u8 0, .int .u8 0, .int .u8 0, .int .u8 0, .int .u8 0, .int .u8 0,
    .int .u8 0, .int .u8 0, .int .u8 0, .int .u8 0, .int .u8 0, .int .u8 0, .int .u8 0, .int .u8 0, .int .u8 0, .int .u8 0, .int .u8 0, .int .u8 0, .int .u8 0, .int .u8 0, .int .u8 0, .int .u8 0] := rfl
theorem outCells_all (R : St) : outCells R 8 = (bytes (outBytes R)).toArray := by
  simp only [outCells, outBytes]; rfl

theorem outCells_step (R : St) (k : Nat) (hk : k < 8) (x : Nat) (hx : x = (stList R).getD k 0) :
    ((((outCells R k).setIfInBounds (4 * k) (.int .u8 ((UInt8.ofNat (x / 16777216)).toNat))).setIfInBounds (4 * k + 1) (.int .u8 ((UInt8.ofNat (x / 65536)).toNat))).setIfInBounds (4 * k + 2) (.int .u8 ((UInt8.ofNat (x / 256)).toNat))).setIfInBounds (4 * k + 3) (.int .u8 ((UInt8.ofNat x).toNat)) = outCells R (k + 1) := by
  subst hx
  rcases (by omega : k = 0 ∨ k = 1 ∨ k = 2 ∨ k = 3 ∨ k = 4 ∨ k = 5 ∨ k = 6 ∨ k = 7) with rfl | rfl | rfl | rfl | rfl | rfl | rfl | rfl <;> rfl
theorem byte_mod (x : Nat) : ((x : Int) % 256) = ((UInt8.ofNat x).toNat : Int) := by rw [UInt8.toNat_ofNat']; omega

set_option maxHeartbeats 4000000 in
set_option maxRecDepth 100000 in
theorem sum_any (w : World) (p : Nat) (g : Option Nat) (l : List UInt8) (h : HashAt w p g l) (hk : KeysAt w) (hlen : l.length ≤ 70368744177664) :
    Calls Tryd.prog 13 #[.pointer (some ⟨p, 0, none⟩)] w fun e w' => e = .returned (.agg (bytes (sha l)).toArray) ∧ Below w.heap.size w w' := by
  obtain ⟨i0, hi, hz0, hz1, hz2⟩ := info_parts info_byte
  obtain ⟨s, a, c, rest, hrow, hown, hgb, hgp, hs, hrest⟩ := h
  have hpl := lt_heap hrow
  have f8 := cell_of_row w _ 8 _ _ _ hrow
  have f9 := cell_of_row w _ 9 _ _ _ hrow
  simp at f8 f9
  have Hrow := Lib.hid hrow
  have Hsl := Lib.hid hown.sl
  have Hs := Lib.hid hs
  have hrl : rest.length < 64 := by rw [hrest, List.length_drop]; omega
  have Hrest := Lib.hid hrest
  have Hk := Lib.hid hk
  have F9 := Lib.hid f9
  clear hrow hown hs hrest hk hgb hgp
  go_enter Tryd.func13, Tryd.ntmps13
  go_wp2_with (first
    | (at_builtin; refine wpList_append_any rfl (.const (.slice none 0 0)) (.tmp 13) 24 rfl 5 i0 (.int .u8 0) 1 1 Tryd.underlying24 hi hz0 hz1 hz2 rfl (by decide) (.slice none 0 0) 0 [] (.slice a rest.length c) rest.length (bytes rest) rfl rfl (Own.nil _ _ _) (Hsl.out.kept ((Upd.refl (fun _ => False) w).alloc _) (fun _ _ _ => id)) (bytes_one rest) (by omega) (by omega) ?_))
  intro a1 c1 w1 hown1 hgr1 hb1
  have hb1' : ∀ k, (Value.slice a1 rest.length c1).ownBlock = some k → w.heap.size < k := fun k hk => by
    have := hb1 k (by simp [Value.ownBlock]) (by simpa using hk)
    omega
  have hu1 : Upd (fun _ => False) w w1 := ((Upd.refl (fun _ => False) w).alloc _).grown hgr1 (by simp [Value.ownBlock])
  obtain ⟨Z, hZ⟩ : ∃ Z : Array Value, Z = Array.replicate 32 (.int .u8 0) := ⟨_, rfl⟩
  have hzz : w1.heap[w.heap.size]? = some (.cells Z 26 (0, 0)) := by
    rw [hgr1.block w.heap.size (by simp) (by simp [Value.ownBlock]), hZ]; exact heap_alloc_new _ _
  have HZ := Lib.hid hZ
  have hlt1 := lt_heap hzz
  have Hbuf1 : Hid (Buf w Z w1 (.slice a1 rest.length c1) rest.length rest) := ⟨hown1, hb1', hu1, hzz⟩
  have f9 := hu1.cell f9 id
  clear hZ hown1 hb1' hu1 hzz hgr1 hb1 f8
  go_wp2_with (first
    | (at_builtin; refine wpList_append_any rfl (.tmp 15) (.tmp 16) 24 rfl 5 i0 (.int .u8 0) 1 1 Tryd.underlying24 hi hz0 hz1 hz2 rfl (by decide) (.slice a1 rest.length c1) rest.length (bytes rest) (.slice (some ⟨w1.heap.size, 0, none⟩) 1 1) 1 (bytes [128]) rfl rfl (Hbuf1.out.1.kept ((Upd.refl (fun _ => False) w1).alloc _) (fun _ _ => id)) (Sl.made _ _ _ _ _ _ _ _ rfl rfl (by omega)) (bytes_one _) (by omega) (by omega) ?_))
  intro a2 c2 w2 hown2 hgr2 hb2
  have Hbuf2 := Lib.hid (Hbuf1.out.push _ hown2 hgr2 hb2)
  have hlt2 := lt_heap Hbuf2.out.2.2.2
  have f9 := Hbuf2.out.2.2.1.cell F9.out id
  clear hown2 hgr2 hb2 Hbuf1 hlt1
  obtain ⟨pre, hpre⟩ : ∃ pre, pre = rest ++ [128] := ⟨_, rfl⟩
  have Hpre := Lib.hid hpre
  have hpl1 : pre.length = rest.length + 1 := by rw [hpre]; simp
  have hbp : Buf w Z w2 (.slice a2 (rest.length + 1) c2) (rest.length + 1) pre := by rw [hpre]; exact Hbuf2.out
  have Hbuf2 := Lib.hid hbp
  have Hpl1 := Lib.hid hpl1
  clear hpre hbp hpl1
  have hz63 : zeros rest.length ≤ 63 := by unfold zeros; omega
  go_wp2_with fail
  go_loopw [3] (fun v wr => ∃ (j : Nat) (a3 : Option Addr) (c3 : Nat), j ≤ zeros rest.length ∧ v = .slice a3 (rest.length + 1 + j) c3 ∧ Buf w Z wr (.slice a3 (rest.length + 1 + j) c3) (rest.length + 1 + j) (pre ++ List.replicate j 0))
    (fun v wr => match v with | .slice _ n _ => rest.length + 1 + zeros rest.length - n | _ => 0)
  case atStart => exact ⟨0, a2, c2, Nat.zero_le _, rfl, by simpa using Hbuf2.out⟩
  case round =>
    clear Hbuf2 hlt2 f9
    obtain ⟨j, a3, c3, hj, rfl, hbuf⟩ := hrel
    have Hbuf := Lib.hid hbuf
    clear hbuf
    by_cases hjz : j < zeros rest.length
    · have hmod : (rest.length + 1 + j) % 64 ≠ 56 := by unfold zeros at hjz; omega
      go_wp2_with (first
        | (at_builtin; refine wpList_append_any rfl (.tmp 22) (.tmp 23) 24 rfl 5 i0 (.int .u8 0) 1 1 Tryd.underlying24 hi hz0 hz1 hz2 rfl (by decide) (.slice a3 (rest.length + 1 + j) c3) (rest.length + 1 + j) (bytes (pre ++ List.replicate j 0)) (.slice (some ⟨wr.heap.size, 0, none⟩) 1 1) 1 (bytes [0]) rfl rfl (Hbuf.out.1.kept ((Upd.refl (fun _ => False) wr).alloc _) (fun _ _ => id)) (Sl.made _ _ _ _ _ _ _ _ rfl rfl (by omega)) (bytes_one _) (by omega) (by omega) ?_))
      intro a4 c4 w4 hown4 hgr4 hb4
      have Hbuf4 := Lib.hid (Hbuf.out.push (x := 0) _ hown4 hgr4 hb4)
      clear hown4 hgr4 hb4
      go_wp2
      go_roundw
      case rel => exact ⟨j + 1, a4, c4, hjz, rfl, by rw [List.replicate_succ', ← List.append_assoc]; exact Hbuf4.out⟩
      case measure => simp; omega
    · have Hj := Lib.hid (show j = zeros rest.length by omega)
      have hmod : (rest.length + 1 + j) % 64 = 56 := by have := Hj.out; unfold zeros at this; omega
      have f9 := Hbuf.out.2.2.1.cell F9.out id
      have hne : (((rest.length : Int) + 1 + j) % 64 != 56) = false := by rw [bne_eq_false_iff_eq]; omega
      go_wp2_with fail
      clear hne
      obtain ⟨m, hm⟩ : ∃ m, m = rest.length + 1 + j := ⟨_, rfl⟩
      obtain ⟨pr, hpr⟩ : ∃ pr, pr = pre ++ List.replicate j 0 := ⟨_, rfl⟩
      have hb0 : Buf w Z wr (.slice a3 m c3) m pr := by rw [hm, hpr]; exact Hbuf.out
      rw [← hm]
      have hmb : m ≤ 200 := by omega
      have hmm : m % 64 = 56 := by rw [hm]; exact hmod
      have Hm := Lib.hid hm
      have Hpr := Lib.hid hpr
      have Hb0 := Lib.hid hb0
      clear hb0 hm hpr Hbuf hmod f9
      go_loopw [3, 5] (fun v i wq => ∃ (b : Nat) (a5 : Option Addr) (c5 : Nat), b ≤ 8 ∧ v = .slice a5 (m + b) c5 ∧ i = .int .i64 (7 - b) ∧ Buf w Z wq (.slice a5 (m + b) c5) (m + b) (pr ++ be8 (8 * l.length) b))
        (fun _ i _ => (intOf i + 1).toNat)
      case atStart => exact ⟨0, a3, c3, Nat.zero_le _, rfl, rfl, by simpa [be8] using Hb0.out⟩
      case round =>
        rename World => wq
        obtain ⟨b, a5, c5, hb, rfl, rfl, hbuf⟩ := hrel
        have Hbuf := Lib.hid hbuf
        clear hbuf Hb0
        by_cases hb8 : b < 8
        · go_wp2_with (first
            | (at_builtin; refine wpList_append_any rfl (.tmp 35) (.tmp 41) 24 rfl 5 i0 (.int .u8 0) 1 1 Tryd.underlying24 hi hz0 hz1 hz2 rfl (by decide) (.slice a5 (m + b) c5) (m + b) (bytes (pr ++ be8 (8 * l.length) b)) (.slice (some ⟨wq.heap.size, 0, none⟩) 1 1) 1 (bytes [UInt8.ofNat (8 * l.length / 2 ^ (8 * (7 - b)))]) rfl rfl (Hbuf.out.1.kept ((Upd.refl (fun _ => False) wq).alloc _) (fun _ _ => id)) (Sl.made _ _ _ _ _ _ _ _ (be8_byte l.length b) rfl (by omega)) (bytes_one _) (by omega) (by omega) ?_))
          intro a6 c6 w6 hown6 hgr6 hb6
          have Hbuf6 := Lib.hid (Hbuf.out.push (x := UInt8.ofNat (8 * l.length / 2 ^ (8 * (7 - b)))) _ hown6 hgr6 hb6)
          clear hown6 hgr6 hb6
          go_wp2
          go_roundw
          case rel => exact ⟨b + 1, a6, c6, hb8, rfl, by go_num, by rw [be8, ← List.append_assoc]; exact Hbuf6.out⟩
          case measure => simp [intOf]; omega
        · have Hb8 := Lib.hid (show b = 8 by omega)
          obtain ⟨q, hq⟩ : ∃ q, q = m + b := ⟨_, rfl⟩
          obtain ⟨L, hLL⟩ : ∃ L, L = pr ++ be8 (8 * l.length) b := ⟨_, rfl⟩
          have hb9 : Buf w Z wq (.slice a5 q c5) q L := by rw [hq, hLL]; exact Hbuf.out
          rw [← hq]
          have hq64 : q % 64 = 0 := by omega
          have hq200 : q ≤ 208 := by omega
          have Hq := Lib.hid hq
          have HLL := Lib.hid hLL
          have Hb9 := Lib.hid hb9
          have Hlq : Hid (L.length = q) := by have := Hb9.out.1.1; rw [bytes_length] at this; show _ = _; omega
          have hrw := Hb9.out.2.2.1.at_ Hrow.out id
          have f0 := cell_of_row wq _ 0 _ _ _ hrw
          have f1 := cell_of_row wq _ 1 _ _ _ hrw
          have f2 := cell_of_row wq _ 2 _ _ _ hrw
          have f3 := cell_of_row wq _ 3 _ _ _ hrw
          have f4 := cell_of_row wq _ 4 _ _ _ hrw
          have f5 := cell_of_row wq _ 5 _ _ _ hrw
          have f6 := cell_of_row wq _ 6 _ _ _ hrw
          have f7 := cell_of_row wq _ 7 _ _ _ hrw
          simp at f0 f1 f2 f3 f4 f5 f6 f7
          clear hq hLL hb9 hrw Hbuf Hbuf2 f9
          go_wp2_with fail
          clear f0 f1 f2 f3 f4 f5 f6 f7
          have hso : s.Ok := by rw [Hs.out]; exact blocks_ok start_ok _ _
          go_loopw [3] (fun v wz => ∃ (d : Nat) (a7 : Option Addr) (c7 : Nat), 64 * d ≤ q ∧ v = .slice a7 (q - 64 * d) c7 ∧ q - 64 * d ≤ c7 ∧ Sl wz 1 (.slice a7 (q - 64 * d) c7) (q - 64 * d) (bytes (L.drop (64 * d))) ∧
              wz.heap[wq.heap.size]? = some (.cells (stCells (blocks s L d)) 86 (0, 0)) ∧ Upd (fun _ => False) wq wz)
            (fun v _ => match v with | .slice _ n _ => n | _ => 0)
          case atStart =>
            refine ⟨0, a5, c5, by omega, rfl, ?_, Hb9.out.1.sl.kept ((Upd.refl (fun _ => False) wq).alloc _) (fun _ _ _ => id), heap_alloc_new _ _, (Upd.refl _ _).alloc _⟩
            rcases Hb9.out.1.2.2 with ⟨hv, h0⟩ | ⟨_, _, _, _, hv, _, hnc, _⟩
            · omega
            · injection hv with _ _ hc; omega
          case round =>
            rename World => wz
            obtain ⟨d, a7, c7, hd, rfl, hc7, hsl7, hst, hu7⟩ := hrel
            have Hsl7 := Lib.hid hsl7
            have Hst := Lib.hid hst
            have Hu7 := Lib.hid hu7
            clear hsl7 hst hu7
            by_cases hlt7 : 64 * d < q
            · obtain ⟨n7, hn7⟩ : ∃ n7, n7 = q - 64 * d := ⟨_, rfl⟩
              rw [← hn7] at hc7 ⊢
              have h7 : Hid (Sl wz 1 (.slice a7 n7 c7) n7 (bytes (L.drop (64 * d)))) := by rw [hn7]; exact Hsl7.out
              have hn64 : 64 ≤ n7 := by omega
              have hnb : n7 ≤ 208 := by omega
              have Hn7 := Lib.hid hn7
              clear hn7 Hsl7
              obtain ⟨a8, _, _, hs3, hsl8, _⟩ := h7.out.cut Tryd.underlying24 size_byte 0 64 (by omega) hn64 hc7
              have hcut := fun w => hs3 w 64 rfl rfl
              obtain ⟨a9, _, hs4, _, hsl9, _⟩ := h7.out.cut Tryd.underlying24 size_byte 64 n7 hn64 (Nat.le_refl _) hc7
              have hcut2 := fun w => hs4 w 64 rfl rfl
              have hslB : Sl wz.drew 1 (.slice a8 64 c7) 64 (bytes ((L.drop (64 * d)).take 64)) := by
                have h := hsl8.kept (Upd.refl (fun _ => False) wz).drew (fun _ _ _ => id)
                simp only [Nat.sub_zero, Nat.zero_mul, List.drop_zero, Nat.mul_one] at h
                rwa [show bytes ((L.drop (64 * d)).take 64) = (bytes (L.drop (64 * d))).take 64 from by simp [bytes, List.map_take]]
              have HslB := Lib.hid hslB
              have Hsl9 := Lib.hid hsl9
              have Hr64 : Hid (((L.drop (64 * d)).take 64).length = 64) := by show _ = _; rw [List.length_take, List.length_drop, Hlq.out]; omega
              have HkB : Hid (KeysAt wz.drew) := fun i hi => Hu7.out.cell (Hb9.out.2.2.1.cell (Hk.out i hi) id) id
              obtain ⟨s2, hs2⟩ : ∃ s2, s2 = blocks s L d := ⟨_, rfl⟩
              have hso2 : s2.Ok := by rw [hs2]; exact blocks_ok hso _ _
              have hst := Hst.out
              rw [← hs2] at hst
              have Hs2 := Lib.hid hs2
              have hlq := lt_heap hst
              have f0 := cell_of_row wz _ 0 _ _ _ hst
              have f1 := cell_of_row wz _ 1 _ _ _ hst
              have f2 := cell_of_row wz _ 2 _ _ _ hst
              have f3 := cell_of_row wz _ 3 _ _ _ hst
              have f4 := cell_of_row wz _ 4 _ _ _ hst
              have f5 := cell_of_row wz _ 5 _ _ _ hst
              have f6 := cell_of_row wz _ 6 _ _ _ hst
              have f7 := cell_of_row wz _ 7 _ _ _ hst
              simp only [stCells, List.getElem?_toArray, List.getElem?_cons_succ, List.getElem?_cons_zero] at f0 f1 f2 f3 f4 f5 f6 f7
              have Hst := Lib.hid hst
              clear hs2 hst hslB hsl8 hsl9 hs3 hs4
              go_wp2_with fail
              go_region_with ((go_at_call 42; refine (block_any' wz.drew s2 hso2 a8 c7 ((L.drop (64 * d)).take 64) HslB.out Hr64.out HkB.out).mono ?_; rintro e wv ⟨N, hN, rfl, hbv⟩; have hrv := (hbv.block wq.heap.size hlq).trans Hst.out; have HN := Lib.hid hN; clear hN; simp only [stCells] at hrv; have k0 := cell_of_row wv _ 0 _ _ _ hrv; have k1 := cell_of_row wv _ 1 _ _ _ hrv; have k2 := cell_of_row wv _ 2 _ _ _ hrv; have k3 := cell_of_row wv _ 3 _ _ _ hrv; have k4 := cell_of_row wv _ 4 _ _ _ hrv; have k5 := cell_of_row wv _ 5 _ _ _ hrv; have k6 := cell_of_row wv _ 6 _ _ _ hrv; have k7 := cell_of_row wv _ 7 _ _ _ hrv; simp at k0 k1 k2 k3 k4 k5 k6 k7; have z0 := frozen_of_row wv _ 0 _ _ hrv; have z1 := frozen_of_row wv _ 1 _ _ hrv; have z2 := frozen_of_row wv _ 2 _ _ hrv; have z3 := frozen_of_row wv _ 3 _ _ hrv; have z4 := frozen_of_row wv _ 4 _ _ hrv; have z5 := frozen_of_row wv _ 5 _ _ hrv; have z6 := frozen_of_row wv _ 6 _ _ hrv; have z7 := frozen_of_row wv _ 7 _ _ hrv; have Hrv := Lib.hid hrv; have Hbv := Lib.hid hbv; clear hrv hbv f0 f1 f2 f3 f4 f5 f6 f7))
              go_wp2
              go_roundw
              case rel =>
                have hset := set8 wv wq.heap.size _ _ _ _ _ _ _ _ _ Hrv.out (.int .u32 (N.a : Nat)) (.int .u32 (N.b : Nat)) (.int .u32 (N.c : Nat)) (.int .u32 (N.d : Nat)) (.int .u32 (N.e : Nat)) (.int .u32 (N.f : Nat)) (.int .u32 (N.g : Nat)) (.int .u32 (N.h : Nat))
                have hup : Upd (fun k => k = wq.heap.size) wz wv := ((Upd.refl _ wz).drew).trans (Upd.below Hbv.out _)
                have e1 : q - 64 * (d + 1) = n7 - 64 := by have := Hn7.out; omega
                have hxs : (((bytes (L.drop (64 * d))).drop (64 * 1)).take ((n7 - 64) * 1)) = bytes (L.drop (64 * (d + 1))) := by
                  have hl : (L.drop (64 * (d + 1))).length = n7 - 64 := by rw [List.length_drop, Hlq.out]; exact e1
                  rw [List.take_of_length_le (by rw [List.length_drop, bytes_length, List.length_drop, Hlq.out]; omega)]
                  simp only [bytes, List.map_drop, List.drop_drop]
                  rfl
                have hsl9 := Hsl9.out
                rw [hxs] at hsl9
                have hap := bytes_apart Hst.out (by intro u hu n; simp [stCells] at hu; rcases hu with rfl | rfl | rfl | rfl | rfl | rfl | rfl | rfl <;> simp) hsl9
                refine ⟨d + 1, a9, c7 - 64, by omega, by rw [e1], by omega, ?_, ?_, ?_⟩
                · rw [e1]
                  refine hsl9.kept (S := fun k => k = wq.heap.size) ?_ (fun k hk hne h => hap k hk hne h)
                  repeat (with_reducible refine Upd.setCell ?_ _ _ (fun _ => rfl))
                  exact hup
                · rw [hset, blocks, ← Hs2.out, ← HN.out]; rfl
                · repeat (with_reducible refine Upd.setCell ?_ _ _ (fun h => absurd h (Nat.lt_irrefl _)))
                  exact Hu7.out.then hup (fun i hi h => by omega)
              case measure => simp; omega
            · have Hdq := Lib.hid (show 64 * d = q by omega)
              have hst := Hst.out
              obtain ⟨R, hR⟩ : ∃ R, R = blocks s L d := ⟨_, rfl⟩
              rw [← hR] at hst
              have HR := Lib.hid hR
              have hzz := Hu7.out.at_ Hb9.out.2.2.2 id
              have f0 := cell_of_row wz _ 0 _ _ _ hst
              have f1 := cell_of_row wz _ 1 _ _ _ hst
              have f2 := cell_of_row wz _ 2 _ _ _ hst
              have f3 := cell_of_row wz _ 3 _ _ _ hst
              have f4 := cell_of_row wz _ 4 _ _ _ hst
              have f5 := cell_of_row wz _ 5 _ _ _ hst
              have f6 := cell_of_row wz _ 6 _ _ _ hst
              have f7 := cell_of_row wz _ 7 _ _ _ hst
              simp only [stCells, List.getElem?_toArray, List.getElem?_cons_succ, List.getElem?_cons_zero] at f0 f1 f2 f3 f4 f5 f6 f7
              have Hzz := Lib.hid hzz
              have hzlt := lt_heap hzz
              have hqlt := lt_heap hst
              clear hR hst hzz Hst
              go_wp2_with fail
              clear f0 f1 f2 f3 f4 f5 f6 f7
              have hidx : ∀ (k : Nat) (w : World), k < 8 → (Instr.index 86 (.agg #[.int .u32 (R.a : Nat), .int .u32 (R.b : Nat), .int .u32 (R.c : Nat), .int .u32 (R.d : Nat), .int .u32 (R.e : Nat), .int .u32 (R.f : Nat), .int .u32 (R.g : Nat), .int .u32 (R.h : Nat)]) (.int .i64 k)).run Tryd.prog w = .ok (.int .u32 ((stList R).getD k 0 : Nat)) w := index8 R
              have Hidx := Lib.hid hidx
              clear hidx
              go_loopw [57] (fun i wv => ∃ k : Nat, k ≤ 8 ∧ i = .int .i64 k ∧ wv.heap[wz.heap.size]? = some (.cells (outCells R k) 26 (0, 0)) ∧ Upd (fun _ => False) wz wv) (fun i _ => 8 - (intOf i).toNat)
              case atStart => exact ⟨0, by omega, rfl, by rw [outCells_zero]; exact heap_alloc_new _ _, (Upd.refl _ _).alloc _⟩
              case round =>
                rename World => wv
                obtain ⟨k, hk, rfl, ho, huv⟩ := hrel
                have Huv := Lib.hid huv
                clear huv
                by_cases hk8 : k < 8
                · have hix := fun w => Hidx.out k w hk8
                  obtain ⟨x, hx⟩ : ∃ x, x = (stList R).getD k 0 := ⟨_, rfl⟩
                  rw [← hx] at hix
                  have HX := Lib.hid hx
                  clear hx
                  have hsz := outCells_size R k hk
                  obtain ⟨y0, c0⟩ := outCells_some R k hk (4 * k) (by omega)
                  obtain ⟨y1, c1⟩ := outCells_some R k hk (4 * k + 1) (by omega)
                  obtain ⟨y2, c2⟩ := outCells_some R k hk (4 * k + 2) (by omega)
                  obtain ⟨y3, c3⟩ := outCells_some R k hk (4 * k + 3) (by omega)
                  have k0 := (cell_of_row wv _ (4 * k) _ _ _ ho).trans c0
                  have k1 := (cell_of_row wv _ (4 * k + 1) _ _ _ ho).trans c1
                  have k2 := (cell_of_row wv _ (4 * k + 2) _ _ _ ho).trans c2
                  have k3 := (cell_of_row wv _ (4 * k + 3) _ _ _ ho).trans c3
                  have z0 := frozen_of_row wv _ (4 * k) _ _ ho
                  have z1 := frozen_of_row wv _ (4 * k + 1) _ _ ho
                  have z2 := frozen_of_row wv _ (4 * k + 2) _ _ ho
                  have z3 := frozen_of_row wv _ (4 * k + 3) _ _ ho
                  have Ho := Lib.hid ho
                  clear ho c0 c1 c2 c3 hsz
                  go_wp2
                  go_roundw
                  case rel =>
                    have e0 : ((x : Int) / 16777216 % 256) = ((UInt8.ofNat (x / 16777216)).toNat : Int) := by rw [← byte_mod]; rfl
                    have e1 : ((x : Int) / 65536 % 256) = ((UInt8.ofNat (x / 65536)).toNat : Int) := by rw [← byte_mod]; rfl
                    have e2 : ((x : Int) / 256 % 256) = ((UInt8.ofNat (x / 256)).toNat : Int) := by rw [← byte_mod]; rfl
                    rw [e0, e1, e2, byte_mod]
                    refine ⟨k + 1, by omega, by go_num, ?_, ?_⟩
                    · rw [← outCells_step R k hk8 x HX.out]
                      exact heap_setCell_same _ _ _ _ _ _ (heap_setCell_same _ _ _ _ _ _ (heap_setCell_same _ _ _ _ _ _ (heap_setCell_same _ _ _ _ _ _ Ho.out)))
                    · repeat (with_reducible refine Upd.setCell ?_ _ _ (fun h => absurd h (Nat.lt_irrefl _)))
                      exact Huv.out
                  case measure => simp [intOf]; omega
                · have Hk8 := Lib.hid (show k = 8 by omega)
                  rw [Hk8.out, outCells_all] at ho
                  have hZs : Z.size = 32 := by rw [HZ.out]; simp
                  have hbs : (bytes (outBytes R)).toArray.size = 32 := by simp [bytes_length, outBytes_length]
                  have hzz := Huv.out.at_ Hzz.out id
                  obtain ⟨C, hC⟩ : ∃ C, C = (bytes (outBytes R)).toArray := ⟨_, rfl⟩
                  rw [← hC] at ho hbs
                  have HC := Lib.hid hC
                  have Ho := Lib.hid ho
                  have Hzv := Lib.hid hzz
                  have HZs := Lib.hid hZs
                  have hone : C.all (·.oneCell') = true := by rw [HC.out, Array.all_eq_true_iff_forall_mem]; intro u hu; exact bytes_one _ u (by simpa using hu)
                  have Hone := Lib.hid hone
                  clear hone
                  have Hbs := Lib.hid hbs
                  clear hC ho hzz hZs hbs
                  go_wp2_with (first
                    | (refine wpList_load_row rfl 26 (.tmp 7) rfl wz.heap.size rfl 26 C (0, 0) _ Ho.out Tryd.underlying26 rfl (by rw [Hbs.out]; kernel_rfl) ?_)
                    | (refine wpList_store_row rfl 26 (.tmp 2) (.tmp 88) rfl w.heap.size C rfl rfl 26 Z Hzv.out (by rw [Hbs.out]; kernel_rfl) (by rw [Hbs.out, HZs.out]) Hone.out ?_))
                  have hset := setRow_heap wv w.heap.size Z C 26 (0, 0) Hzv.out
                  have hLt : L = tailOf rest l.length := by rw [HLL.out, Hb8.out, Hpr.out, Hpre.out, Hj.out]; rfl
                  have hdt : d = (tailOf rest l.length).length / 64 := by rw [← hLt, Hlq.out]; have := Hdq.out; omega
                  refine bodyPost_ret (results_cell_row (P := Tryd.prog) Tryd.results13 _ _ w.heap.size 26 C (0, 0) _ rfl hset Tryd.underlying26 rfl (by rw [Hbs.out]; kernel_rfl)) rfl ⟨?_, ?_⟩
                  · rw [HC.out, HR.out, Hs.out, hLt, hdt, sha_rest l, ← Hrest.out]
                  · exact below_setRow (((Hb9.out.2.2.1.trans (Hu7.out.then Huv.out (fun _ _ h => h))).mono (fun _ _ h => h)).toBelow (fun _ h => h.elim) (Nat.le_refl _)) (Nat.le_refl _) C
end Go.Proofs.YtefobboakikpbaaDoor
