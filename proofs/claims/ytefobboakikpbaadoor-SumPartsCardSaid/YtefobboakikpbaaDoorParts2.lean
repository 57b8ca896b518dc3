/- The law SumParts, walked: the law's own function. -/
import Derived.Test.YtefobboakikpbaaDoorParts
namespace Go.Proofs.YtefobboakikpbaaDoor
open Go.RowKit
set_option linter.unusedVariables false
set_option linter.unusedSimpArgs false

theorem Ints.below {w w' : World} {v : Value} {n : Nat} (h : Ints w v n) (hb : Below w.heap.size w w') : Ints w' v n := by
  obtain ⟨a, c, zs, rfl, h1, h2, h3, h4⟩ := h
  exact ⟨a, c, zs, rfl, h1, h2, h3, fun hn => by obtain ⟨ad, rfl, h5⟩ := h4 hn; exact ⟨ad, rfl, fun i hi => (hb.cell (block_lt_of_cell (h5 i hi))).trans (h5 i hi)⟩⟩

set_option maxHeartbeats 4000000 in
set_option maxRecDepth 100000 in
theorem parts_law (w : World) (hk : KeysAt w) (hbg : BeginAt w) (hf : FoursAt w) (a : Option Addr) (c : Nat) (l : List UInt8) (hl : Sl w 1 (.slice a l.length c) l.length (bytes l)) (hlc : l.length ≤ c) (hlen : l.length ≤ 32768)
    (a1 a2 : Option Addr) (n1 n2 c1 c2 : Nat) (h1 : Ints w (.slice a1 n1 c1) n1) (h2 : Ints w (.slice a2 n2 c2) n2) :
    Calls Tryd.prog 9 #[.slice a l.length c, .slice a1 n1 c1, .slice a2 n2 c2] w fun e w' => e = .returned (.bool true) ∧ Below w.heap.size w w' := by
  have Hk := Lib.hid hk
  have Hbg := Lib.hid hbg
  have Hf := Lib.hid hf
  have Hl := Lib.hid hl
  have H1 := Lib.hid h1
  have H2 := Lib.hid h2
  clear hk hbg hf hl h1 h2
  go_enter Tryd.func9, Tryd.ntmps9
  go_wp2_with fail
  refine (known_any w Hk.out Hbg.out Hf.out).mono ?_
  rintro e w1 ⟨rfl, hb1⟩
  have Hb1 := Lib.hid hb1
  clear hb1
  obtain ⟨L, hL⟩ : ∃ L, L = bytes (sha l) := ⟨_, rfl⟩
  have hLl : L.length = 32 := by rw [hL]; rfl
  have inf26 : (Tryd.prog.info? 26).map (·.size) = some L.length := by rw [hLl]; kernel_rfl
  have und26 : Tryd.prog.underlying 26 = some (.array 32 5) := Tryd.underlying26
  obtain ⟨hCs, hCo⟩ := sum_cells (sha l) rfl
  rw [← hL] at hCs hCo
  have hC : L.toArray = (bytes (sha l)).toArray := by rw [hL]
  have q1 : ∀ w, (Op.equalIn 10000 26 (.agg L.toArray) (.agg L.toArray)).run Tryd.prog w = .ok true w := fun w => by rw [hL]; exact eq_sum _ rfl w
  have HC := Lib.hid hC
  have HCs := Lib.hid hCs
  have HCo := Lib.hid hCo
  clear hC hCs hCo hL hLl
  go_wp2_with fail
  have hpo := parts_one w1 24 a c l (Hl.out.below Hb1.out)
  refine (SHA_any _ ((Hk.out.below Hb1.out).below (on_alloc (Below.refl _ _) _)) ((Hbg.out.below Hb1.out).below (on_alloc (Below.refl _ _) _)) _ 1 [l] hpo (by simp; omega) (by simp)).mono ?_
  rintro e w2 ⟨rfl, hb2⟩
  have hbe2 : Below w.heap.size w w2 := Hb1.out.trans ((below_on (on_alloc (Below.refl _ _) _) hb2).mono Hb1.out.size)
  rw [show (bytes (sha [l].flatten)).toArray = L.toArray by rw [HC.out]; simp]
  clear hpo hb2 Hb1
  have hsz2 := hbe2.size
  have Hbe2 := Lib.hid hbe2
  clear hbe2
  go_wp2_with (refine wpList_store_fresh rfl 26 _ _ rfl L.toArray rfl rfl (by rw [HCs.out]; kernel_rfl) (by rw [HCs.out]; rfl) HCo.out ?_)
  intro w3 hs3 hr3 hb3
  have hbe3 : Below w.heap.size w w3 := Hbe2.out.trans (hb3.mono hsz2)
  obtain ⟨B, hB⟩ : ∃ B, B = w2.heap.size := ⟨_, rfl⟩
  rw [← hB] at hs3 hr3 hsz2 ⊢
  have Hkn := Lib.hid (show Kw w L.toArray B w3 from ⟨hbe3, hr3⟩)
  have hB0 : w.heap.size ≤ B := hsz2
  clear hs3 hr3 hb3 hbe3 hB Hbe2
  go_wp2_with fail
  go_region_held3 (fun w' => Kw w L.toArray B w' ∧ w'.rangeAt B 0 L) (first | assumption | exact Kw.range Hkn.out | exact Kw.range (Kw.drew Hkn.out) | exact Kw.range (Kw.alloc Hkn.out _) | exact Kw.range (Kw.drew (Kw.alloc Hkn.out _)))
    (first
    | (go_at_call 37; go_split_ands; refine (cutUp_any _ a c l ?_ hlc hlen _ n1 ?_).mono ?_; exact Hl.out.below (Kw.below (by assumption)); exact H1.out.below (Kw.below (by assumption)); rintro e wn ⟨ap, cp, Ps, rfl, hP, hPf, hPl, hbn⟩; have Hkn := Lib.hid (Kw.next hbn (by assumption)); have HP := Lib.hid hP; have HPf := Lib.hid hPf; have HPl := Lib.hid hPl; clear hP hPf hPl hbn)
    | (go_at_call 24; go_split_ands; refine (SHA_any _ ?_ ?_ ap cp Ps HP.out (by rw [HPf.out]; omega) (by have := HPl.out; omega)).mono ?_; exact Hk.out.below (Kw.below (by assumption)); exact Hbg.out.below (Kw.below (by assumption)); rintro e wn ⟨rfl, hbn⟩; rw [HPf.out, ← HC.out]; have Hkn := Lib.hid (Kw.next hbn (by assumption)); clear hbn))
  clear HP HPf HPl
  go_wp2_with fail
  have hwn := Hkn.out.below.size
  have hBn := lt_heap Hkn.out.2
  refine (new_any wn (Hbg.out.below Hkn.out.below)).mono ?_
  rintro e w6 ⟨rfl, hh6, hb6, hs6⟩
  have Hk6 := Lib.hid (Hkn.out.next hb6)
  obtain ⟨p, hp⟩ : ∃ p, p = wn.heap.size := ⟨_, rfl⟩
  rw [← hp] at hh6 hs6 hwn hBn ⊢
  have Hh6 := Lib.hid hh6
  have hs6' : p < w6.heap.size := by omega
  clear hh6 hb6 hs6 hp Hkn
  go_wp2_with fail
  refine (cutUp_at w w6 a c l Hl.out hlc hlen _ n2 (H2.out.below Hk6.out.below)).mono ?_
  rintro e w7 ⟨ap, cp, Ps, vs, rfl, ⟨hsv, hsb, hpi⟩, hPf, hPl, hb7⟩
  have Hk7 := Lib.hid (Hk6.out.next hb7)
  have Hh7 := Lib.hid (Hh6.out.kept (Upd.below hb7 fun _ => False) id (fun _ _ => id))
  have hs7 := Nat.lt_of_lt_of_le hs6' hb7.size
  obtain ⟨F, hF⟩ : ∃ F, F = w7.heap.size := ⟨_, rfl⟩
  have hvl : vs.length = Ps.length := hpi.1
  have hblk : ∀ b, (Value.slice ap Ps.length cp).ownBlock = some b → vs ≠ [] → p < b ∧ b < F := by
    intro b hb hne
    obtain ⟨gg, off, rfl, hgl, _⟩ := hsv.open_ (List.length_pos_iff.2 hne)
    have h1 := hsb b hb
    have : gg = b := by simpa [Value.ownBlock] using hb
    omega
  have Hblk := Lib.hid hblk
  have Hsv := Lib.hid hsv
  have Hpi := Lib.hid hpi
  have HPf := Lib.hid hPf
  have Hvl := Lib.hid hvl
  have hwl := Hk.out.lt
  rw [← hF] at hs7
  have HF := Lib.hid (show F ≤ w7.heap.size by omega)
  clear hsv hsb hpi hblk hPf hvl hb7 Hk6 Hh6 hs6' hF
  go_wp2_with fail
  rw [show decide (32768 < (l.length : Int)) = false by simp; omega]
  go_loopw [10] (fun i wr => ∃ (k : Nat) (g : Option Nat), k ≤ Ps.length ∧ i = .int .i64 k ∧ HashAt wr p g (joinTo Ps k) ∧ (∀ b, g = some b → F ≤ b) ∧ Kw w L.toArray B wr ∧ F ≤ wr.heap.size ∧ Sl wr 1 (.slice ap Ps.length cp) Ps.length vs) (fun i _ => Ps.length - (intOf i).toNat)
  case atStart => exact ⟨0, none, Nat.zero_le _, rfl, by simpa [joinTo] using Hh7.out, by simp, Hk7.out, HF.out, Hsv.out⟩
  case round =>
    obtain ⟨k, g, hk, rfl, hh, hg, hkw, hFr, hsv⟩ := hrel
    have Hh := Lib.hid hh
    have Hg := Lib.hid hg
    have Hkw := Lib.hid hkw
    have HFr := Lib.hid hFr
    have HsvR := Lib.hid hsv
    clear hh hg hkw hFr hsv
    by_cases hlt : k < Ps.length
    · obtain ⟨ax, cx, hv3, hv4⟩ := Hpi.out.2 k hlt
      have hvl := Hvl.out
      obtain ⟨gg, off, rfl, _, hcell⟩ := HsvR.out.open_ (by omega)
      have f0 := hcell k _ hv3
      have hj := joinTo_succ Ps k hlt
      have hjl := joinTo_le Ps (k + 1)
      rw [HPf.out, hj, List.length_append] at hjl
      obtain ⟨x, hx⟩ : ∃ x, x = Ps.getD k [] := ⟨_, rfl⟩
      rw [← hx] at f0 hv4 hj hjl
      have Hj := Lib.hid hj
      have Hv4 := Lib.hid (hv4.below Hkw.out.below)
      have Hjl := Lib.hid hjl
      have hgg : p < gg ∧ gg < F := Hblk.out gg (by simp [Value.ownBlock]) (by intro e; rw [e] at hvl; simp at hvl; omega)
      have hvn : vs ≠ [] := by intro e; rw [e] at hvl; simp at hvl; omega
      clear hv3 hvl hcell hj hx hv4 hjl
      go_wp2_with fail
      refine (add_any wr p g (joinTo Ps k) Hh.out ax cx x Hv4.out (Hk.out.below Hkw.out.below) (by have := Hjl.out; omega) (by omega) (fun h => by have := Hg.out _ h; omega)).mono ?_
      rintro e w8 ⟨rfl, g', hh8, hg8, hu8⟩
      have hS : ∀ b, (b = p ∨ g = some b) → w.heap.size ≤ b ∧ b ≠ B ∧ b ≠ gg := by
        rintro b (rfl | h)
        · omega
        · have := Hg.out b h; omega
      have hk8 := Hkw.out.upd hu8 (fun b h => (hS b h).1) (fun h => (hS B h).2.1 rfl)
      have hsv8 := HsvR.out.kept hu8 (fun b hb _ h => by
        have : gg = b := by simpa [Value.ownBlock] using hb
        exact (hS b h).2.2 this.symm)
      have hF8 := Nat.le_trans HFr.out hu8.size
      have hg8' : ∀ b, g' = some b → F ≤ b := fun b hb => by
        rcases hg8 b hb with h | h
        · exact Hg.out b h
        · exact Nat.le_trans HFr.out h
      rw [← Hj.out] at hh8
      have Hh8 := Lib.hid hh8
      have Hk8 := Lib.hid hk8
      have Hsv8 := Lib.hid hsv8
      have Hg8 := Lib.hid hg8'
      have HF8 := Lib.hid hF8
      have hjl2 : (joinTo Ps (k + 1)).length ≤ 70368744177664 := by have := joinTo_le Ps (k + 1); rw [HPf.out] at this; omega
      clear hh8 hg8 hu8 hS hk8 hsv8 hF8 hg8'
      go_wp2_with fail
      refine (sum_any w8 p g' _ Hh8.out (Hk.out.below Hk8.out.below) hjl2).mono ?_
      rintro e w9 ⟨rfl, hb9⟩
      have Hh9 := Lib.hid (Hh8.out.kept (Upd.below hb9 fun _ => False) id (fun _ _ => id))
      have Hk9 := Lib.hid (Hk8.out.next hb9)
      have HF9 := Lib.hid (Nat.le_trans HF8.out hb9.size)
      have Hsv9 := Lib.hid (Hsv8.out.below hb9)
      clear hb9 hjl2
      go_wp2
      go_roundw
      case rel => exact ⟨k + 1, g', hlt, by go_num, Hh9.out, Hg8.out, Hk9.out, HF9.out, Hsv9.out⟩
      case measure => simp [intOf]; omega
    · have hke : joinTo Ps k = l := by rw [show k = Ps.length by omega, ← HPf.out]; simp [joinTo]
      have hh := Hh.out
      rw [hke] at hh
      have Hkn := Lib.hid (show Kh w L.toArray B p g l wr from ⟨Hkw.out, hh⟩)
      clear hke hh
      go_wp2_with fail
      go_region_held3 (fun w' => Kh w L.toArray B p g l w' ∧ w'.rangeAt B 0 L) (first | assumption | exact Kh.range Hkn.out | exact Kh.range (Kh.drew Hkn.out) | exact Kh.range (Kh.alloc Hkn.out _) | exact Kh.range (Kh.drew (Kh.alloc Hkn.out _)))
        (first
        | (go_at_call 13; go_split_ands; refine (sum_any _ p g l (And.right (show Kh w L.toArray B p g l _ by assumption)) ?_ (by omega)).mono ?_; exact Hk.out.below (And.left (show Kh w L.toArray B p g l _ by assumption)).below; rintro e wn ⟨rfl, hbn⟩; rw [← HC.out]; have Hkn := Lib.hid (Kh.next hbn (by assumption)); clear hbn)
        | (go_at_call 14; go_split_ands; refine (hashLen_any _ p g l (And.right (show Kh w L.toArray B p g l _ by assumption))).mono ?_; rintro e wn ⟨rfl, hbn⟩; have Hkn := Lib.hid (Kh.next hbn (by assumption)); clear hbn))
      go_wp2_with fail
      have hwn2 := Hkn.out.1.below.size
      have hBn2 := lt_heap Hkn.out.1.2
      refine (newPieces_any wn (Hbg.out.below Hkn.out.1.below)).mono ?_
      rintro e w10 ⟨rfl, hp10, hb10⟩
      have Hk10 := Lib.hid (Hkn.out.1.next hb10)
      obtain ⟨G, hG⟩ : ∃ G, G = wn.heap.size := ⟨_, rfl⟩
      rw [← hG] at hp10 hwn2 hBn2 ⊢
      have Hp10 := Lib.hid hp10
      have HG10 : Hid (G + 1 < w10.heap.size) := lt_heap hp10.1
      clear hp10 hb10 hG Hkn Hh Hg Hkw HFr HsvR hk hlt
      go_wp2_with fail
      go_loopw [12] (fun i wr => ∃ (k m : Nat) (g : Option Nat), m < l.length + 512 ∧ i = .int .i64 m ∧ m = 512 * k ∧ PiecesAt wr (G + 1) G g (shasTo l k) ∧ (∀ b, g = some b → G < b) ∧ Kw w L.toArray B wr ∧ G + 1 < wr.heap.size) (fun i _ => l.length + 512 - (intOf i).toNat)
      case atStart => exact ⟨0, 0, none, by omega, rfl, rfl, Hp10.out, by simp, Hk10.out, HG10.out⟩
      case round =>
        obtain ⟨k, m, g, hml, rfl, hm, hp, hg, hkr, hGr⟩ := hrel
        have Hm := Lib.hid hm
        have Hp := Lib.hid hp
        have Hg := Lib.hid hg
        have Hkr := Lib.hid hkr
        have HGr := Lib.hid hGr
        clear hm hp hg hkr hGr
        by_cases hlt : m < l.length
        · by_cases h5 : m + 512 ≤ l.length
          ·
            obtain ⟨q, hq⟩ : ∃ q, q = (m + 512) - m := ⟨_, rfl⟩
            obtain ⟨a4, hs4, _, _, hsl4, _⟩ := (Hl.out.below Hkr.out.below).cut Tryd.underlying24 size_byte m ((m + 512)) (by omega) (by omega) hlc
            have hcut := fun w => hs4 w m ((m : Int) + 512) rfl (by omega)
            rw [← hq] at hcut hsl4
            simp only [Nat.mul_one] at hsl4
            obtain ⟨y, hy⟩ : ∃ y, y = (l.drop m).take q := ⟨_, rfl⟩
            have hyl : y.length = q := by rw [hy, List.length_take, List.length_drop]; omega
            have e4 : ((bytes l).drop m).take q = bytes y := by rw [hy]; simp [bytes, List.map_drop, List.map_take]
            rw [e4] at hsl4
            have hq5 : q ≤ 512 := by omega
            have hy5 : y = (l.drop (512 * k)).take 512 := by rw [hy, Hm.out]; congr 1; omega
            have hpo : Parts (wr.alloc (.cells #[.slice a4 q (c - m)] 24)) (.slice (some ⟨wr.heap.size, 0, none⟩) 1 1) [y] := by
              have h := parts_one wr 24 a4 (c - m) y (by rw [hyl]; exact hsl4)
              rwa [hyl] at h
            have Hpo := Lib.hid hpo
            have Hyl := Lib.hid hyl
            have Hy5 := Lib.hid hy5
            have z0 : (0 : Int) ≤ (m : Int) := by omega
            clear hs4 hsl4 e4 hpo hyl hy5 hy hq
            go_wp2_with fail
            refine (SHA_any _ ((Hk.out.below Hkr.out.below).below (on_alloc (Below.refl _ _) _)) ((Hbg.out.below Hkr.out.below).below (on_alloc (Below.refl _ _) _)) _ 1 [y] Hpo.out (by simp; rw [Hyl.out]; omega) (by simp)).mono ?_
            rintro e w2 ⟨rfl, hb2⟩
            have hbr2 : Below wr.heap.size wr w2 := below_on (on_alloc (Below.refl _ _) _) hb2
            have Hk2 := Lib.hid (Hkr.out.next hbr2)
            have Hp2 := Lib.hid (Hp.out.kept (Upd.below hbr2 fun _ => False) id id (fun _ _ => id))
            have hfl : [y].flatten = y := by simp
            rw [hfl]
            obtain ⟨X, hX⟩ : ∃ X, X = sha y := ⟨_, rfl⟩
            obtain ⟨C2, hC2⟩ : ∃ C, C = (bytes X).toArray := ⟨_, rfl⟩
            have hXl : X.length = 32 := by rw [hX]; rfl
            rw [← hX, ← hC2]
            have HX := Lib.hid hX
            have HC2 := Lib.hid hC2
            have HXl := Lib.hid hXl
            have HG2 := Lib.hid (Nat.le_trans HGr.out hbr2.size)
            clear hb2 hfl hX hC2 hXl hbr2 hcut
            have hgl : g ≠ some 2 := fun h => by have := Hg.out _ h; omega
            have hql : (shasTo l k).length + 32 ≤ 70368744177664 := by rw [shasTo_length]; have := Hm.out; omega
            go_wp2_with fail
            refine (piecesAdd_any w2 (G + 1) G g (shasTo l k) Hp2.out C2 X (by rw [HC2.out]) HXl.out (Hk.out.below Hk2.out.below) hql (by omega) hgl).mono ?_
            rintro e w4 ⟨rfl, g', hp4, hg4, hu4⟩
            have hS : ∀ b, (b = G ∨ g = some b) → w.heap.size ≤ b ∧ b ≠ B := by
              rintro b (rfl | h)
              · omega
              · have := Hg.out b h; omega
            have Hk4 := Lib.hid (Hk2.out.upd hu4 (fun b h => (hS b h).1) (fun h => (hS B h).2 rfl))
            have hG4 := Nat.le_trans HG2.out hu4.size
            have hg4' : ∀ b, g' = some b → G < b := fun b hb => by
              rcases hg4 b hb with h | h
              · exact Hg.out b h
              · have := HG2.out; omega
            have Hp4 := Lib.hid hp4
            have Hg4 := Lib.hid hg4'
            have HG4 := Lib.hid hG4
            clear hp4 hg4 hu4 hS hg4' hgl hql hG4
            go_wp2
            go_roundw
            case rel =>
              refine ⟨k + 1, m + 512, g', by omega, by go_num, by have := Hm.out; omega, ?_, Hg4.out, Hk4.out, HG4.out⟩
              rw [shasTo_succ]
              have h := Hp4.out
              rw [HX.out, Hy5.out] at h
              exact h
            case measure => simp [intOf]; omega
          ·
            obtain ⟨q, hq⟩ : ∃ q, q = l.length - m := ⟨_, rfl⟩
            obtain ⟨a4, hs4, _, _, hsl4, _⟩ := (Hl.out.below Hkr.out.below).cut Tryd.underlying24 size_byte m (l.length) (by omega) (by omega) hlc
            have hcut := fun w => hs4 w m l.length rfl (by omega)
            rw [← hq] at hcut hsl4
            simp only [Nat.mul_one] at hsl4
            obtain ⟨y, hy⟩ : ∃ y, y = (l.drop m).take q := ⟨_, rfl⟩
            have hyl : y.length = q := by rw [hy, List.length_take, List.length_drop]; omega
            have e4 : ((bytes l).drop m).take q = bytes y := by rw [hy]; simp [bytes, List.map_drop, List.map_take]
            rw [e4] at hsl4
            have hq5 : q ≤ 512 := by omega
            have hy5 : y = (l.drop (512 * k)).take 512 := by rw [hy, Hm.out]; rw [List.take_of_length_le (by rw [List.length_drop]; have := Hm.out; omega), List.take_of_length_le (by rw [List.length_drop]; have := Hm.out; omega)]
            have hpo : Parts (wr.alloc (.cells #[.slice a4 q (c - m)] 24)) (.slice (some ⟨wr.heap.size, 0, none⟩) 1 1) [y] := by
              have h := parts_one wr 24 a4 (c - m) y (by rw [hyl]; exact hsl4)
              rwa [hyl] at h
            have Hpo := Lib.hid hpo
            have Hyl := Lib.hid hyl
            have Hy5 := Lib.hid hy5
            have z0 : (0 : Int) ≤ (m : Int) := by omega
            clear hs4 hsl4 e4 hpo hyl hy5 hy hq
            go_wp2_with fail
            refine (SHA_any _ ((Hk.out.below Hkr.out.below).below (on_alloc (Below.refl _ _) _)) ((Hbg.out.below Hkr.out.below).below (on_alloc (Below.refl _ _) _)) _ 1 [y] Hpo.out (by simp; rw [Hyl.out]; omega) (by simp)).mono ?_
            rintro e w2 ⟨rfl, hb2⟩
            have hbr2 : Below wr.heap.size wr w2 := below_on (on_alloc (Below.refl _ _) _) hb2
            have Hk2 := Lib.hid (Hkr.out.next hbr2)
            have Hp2 := Lib.hid (Hp.out.kept (Upd.below hbr2 fun _ => False) id id (fun _ _ => id))
            have hfl : [y].flatten = y := by simp
            rw [hfl]
            obtain ⟨X, hX⟩ : ∃ X, X = sha y := ⟨_, rfl⟩
            obtain ⟨C2, hC2⟩ : ∃ C, C = (bytes X).toArray := ⟨_, rfl⟩
            have hXl : X.length = 32 := by rw [hX]; rfl
            rw [← hX, ← hC2]
            have HX := Lib.hid hX
            have HC2 := Lib.hid hC2
            have HXl := Lib.hid hXl
            have HG2 := Lib.hid (Nat.le_trans HGr.out hbr2.size)
            clear hb2 hfl hX hC2 hXl hbr2 hcut
            have hgl : g ≠ some 2 := fun h => by have := Hg.out _ h; omega
            have hql : (shasTo l k).length + 32 ≤ 70368744177664 := by rw [shasTo_length]; have := Hm.out; omega
            go_wp2_with fail
            refine (piecesAdd_any w2 (G + 1) G g (shasTo l k) Hp2.out C2 X (by rw [HC2.out]) HXl.out (Hk.out.below Hk2.out.below) hql (by omega) hgl).mono ?_
            rintro e w4 ⟨rfl, g', hp4, hg4, hu4⟩
            have hS : ∀ b, (b = G ∨ g = some b) → w.heap.size ≤ b ∧ b ≠ B := by
              rintro b (rfl | h)
              · omega
              · have := Hg.out b h; omega
            have Hk4 := Lib.hid (Hk2.out.upd hu4 (fun b h => (hS b h).1) (fun h => (hS B h).2 rfl))
            have hG4 := Nat.le_trans HG2.out hu4.size
            have hg4' : ∀ b, g' = some b → G < b := fun b hb => by
              rcases hg4 b hb with h | h
              · exact Hg.out b h
              · have := HG2.out; omega
            have Hp4 := Lib.hid hp4
            have Hg4 := Lib.hid hg4'
            have HG4 := Lib.hid hG4
            clear hp4 hg4 hu4 hS hg4' hgl hql hG4
            go_wp2
            go_roundw
            case rel =>
              refine ⟨k + 1, m + 512, g', by omega, by go_num, by have := Hm.out; omega, ?_, Hg4.out, Hk4.out, HG4.out⟩
              rw [shasTo_succ]
              have h := Hp4.out
              rw [HX.out, Hy5.out] at h
              exact h
            case measure => simp [intOf]; omega
        · have hkc : k = pieceCount l.length := by have := Hm.out; unfold pieceCount; omega
          have hp := Hp.out
          rw [hkc] at hp
          have Hp5 := Lib.hid hp
          obtain ⟨C3, hC3⟩ : ∃ C, C = (bytes (digest l)).toArray := ⟨_, rfl⟩
          have q3 : ∀ w, (Op.equalIn 10000 26 (.agg C3) (.agg C3)).run Tryd.prog w = .ok true w := fun w => by rw [hC3]; exact eq_sum _ rfl w
          have HC3 := Lib.hid hC3
          have HC4 := Lib.hid (show (bytes (sha (shasTo l (pieceCount l.length)))).toArray = C3 by rw [hC3]; rfl)
          have hln : (shasTo l (pieceCount l.length)).length ≤ 70368744177664 := by rw [shasTo_length]; unfold pieceCount; omega
          clear hp hkc hC3
          go_wp2_with fail
          refine (piecesSum_any wr (G + 1) G g _ Hp5.out (Hk.out.below Hkr.out.below) hln).mono ?_
          rintro e w5 ⟨rfl, hb5⟩
          rw [HC4.out]
          have Hk5 := Lib.hid (Hkr.out.next hb5)
          clear hb5
          go_wp2_with fail
          refine (digest_any w5 (Hk.out.below Hk5.out.below) (Hbg.out.below Hk5.out.below) a c l (Hl.out.below Hk5.out.below) hlc (by omega)).mono ?_
          rintro e w6 ⟨rfl, hb6⟩
          rw [← HC3.out]
          have Hk6 := Lib.hid (Hk5.out.next hb6)
          clear hb6
          go_wp2
          go_ret
          exact ⟨rfl, Hk6.out.below⟩
theorem parts_early (w : World) (a a1 a2 : Option Addr) (n n1 n2 c c1 c2 : Nat) (hm : n ≤ 9223372036854775807) (h : 32768 < n) :
    Calls Tryd.prog 9 #[.slice a n c, .slice a1 n1 c1, .slice a2 n2 c2] w fun e w' => e = .returned (.bool true) ∧ Below w.heap.size w w' := by
  go_enter Tryd.func9, Tryd.ntmps9
  go_wp2
  go_ret
  exact ⟨rfl, Below.refl _ _⟩
/-- A slice of whole numbers that came in. -/
theorem ints_of_row {w : World} {a : Option Addr} {len cap : Nat} {zs : List Int}
    (h : (a = none ∧ len = 0 ∧ cap = 0 ∧ zs = []) ∨ ∃ x, a = some x ∧ len ≤ cap ∧ cap ≤ maxLen ∧ zs.length = cap ∧ (∀ i, i < zs.length → w.cell? (x.add i) = some (.int .i64 (zs.getD i 0))) ∧ ∀ n ∈ zs, (Lit.int .i64 n).wf = true) :
    Ints w (.slice a len cap) len := by
  rcases h with ⟨rfl, rfl, rfl, rfl⟩ | ⟨x, rfl, hl, hm, hz, hc, hw⟩
  · exact ⟨none, 0, [], rfl, rfl, by omega, (fun z hz => by cases hz), fun h => absurd h (Nat.lt_irrefl _)⟩
  · have hm' : cap ≤ 9223372036854775807 := by simp only [maxLen] at hm; omega
    refine ⟨_, cap, zs.take len, rfl, by simp; omega, by omega, fun z hz' => ?_, fun _ => ⟨x, rfl, fun i hi => ?_⟩⟩
    · have := bounds_i64 (hw z (List.mem_of_mem_take hz'))
      omega
    · rw [hc i (by omega)]
      congr 2
      rw [List.getD_eq_getElem?_getD, List.getD_eq_getElem?_getD, List.getElem?_take, if_pos hi]
end Go.Proofs.YtefobboakikpbaaDoor
