/- Contracts of SumFinds, the third part: == of finds, lists of finds compared. -/
import Derived.Test.YtefobboakikpbaaFind2
import Derived.Deep.RegionHeld3
namespace Go.Proofs.Ytefobboakikpbaa
open Go.RowKit Go.Shelf
set_option linter.unusedVariables false
set_option linter.unusedSimpArgs false

theorem run_part_one {P : Program} {t : TypeId} (ha : ∀ w, (isAgg t).run P w = .ok false w) (xs : Array Value) (off : Nat) (v : Value) (hv : xs[off]? = some v) (w : World) : (part t xs off).run P w = .ok v w := by
  simp [part, ha, hv]
theorem agg_int : ∀ w, (isAgg 3).run Try.prog w = .ok false w := fun w => by kernel_rfl
theorem fields_found : ((Try.prog.fieldsOf 35).toList.map fun f => (f.name, f.type, f.offset)) = [("At", 3, 0), ("Piece", 3, 1)] := by kernel_rfl
theorem und_found : Try.prog.underlying 35 = some (.struct (Try.prog.fieldsOf 35)) := by kernel_rfl
theorem eqFields_cons {P : Program} (d : Nat) (xs ys : Array Value) (f : Field) (fs : List Field) (a b : Value) (r : Bool) (hn : f.name ≠ "_") (w : World) (h1 : (part f.type xs f.offset).run P w = .ok a w) (h2 : (part f.type ys f.offset).run P w = .ok b w)
    (h3 : (Op.equalIn d f.type a b).run P w = .ok r w) : (Op.eqFields d xs ys (f :: fs)).run P w = if r then (Op.eqFields d xs ys fs).run P w else .ok false w := by
  simp only [Op.eqFields, if_pos hn, Sem.run_bind, h1, Result.andThen_ok, h2, h3]
  cases r <;> simp
theorem int_beq (a b : Int) : (a == b) = decide (a = b) := by
  by_cases h : a = b
  · subst h; simp
  · have : (a == b) = false := by rw [beq_eq_false_iff_ne]; exact h
    rw [this, decide_eq_false h]
theorem eq_int_in (d : Nat) (a b : Int) (w : World) : (Op.equalIn (d + 1) 3 (.int .i64 a) (.int .i64 b)).run Try.prog w = .ok (decide (a = b)) w := by
  rw [← int_beq]
  exact run_equalIn_int w d _ .i64 .i64 a b Try.underlying3
theorem eq_found_in (d : Nat) (a b c e : Int) (w : World) : (Op.equalIn (d + 1 + 1) 35 (.agg #[.int .i64 a, .int .i64 b]) (.agg #[.int .i64 c, .int .i64 e])).run Try.prog w = .ok (decide (a = c ∧ b = e)) w := by
  rw [run_equalIn_struct w (d + 1) _ _ _ und_found (by kernel_rfl)]
  have hf := fields_found
  generalize (Try.prog.fieldsOf 35).toList = fs at hf
  obtain ⟨f0, fs1, rfl, g0, hf⟩ := List.map_eq_cons_iff.1 hf
  obtain ⟨f1, fs2, rfl, g1, hf⟩ := List.map_eq_cons_iff.1 hf
  obtain rfl := List.map_eq_nil_iff.1 hf
  · simp only [Prod.mk.injEq] at g0 g1
    obtain ⟨a0, b0, c0⟩ := g0
    obtain ⟨a1, b1, c1⟩ := g1
    rw [eqFields_cons (d + 1) _ _ f0 _ (.int .i64 a) (.int .i64 c) (decide (a = c)) (by rw [a0]; decide) w (by rw [b0, c0]; exact run_part_one agg_int _ _ _ rfl w) (by rw [b0, c0]; exact run_part_one agg_int _ _ _ rfl w) (by rw [b0]; exact eq_int_in d _ _ w)]
    rw [eqFields_cons (d + 1) _ _ f1 [] (.int .i64 b) (.int .i64 e) (decide (b = e)) (by rw [a1]; decide) w (by rw [b1, c1]; exact run_part_one agg_int _ _ _ rfl w) (by rw [b1, c1]; exact run_part_one agg_int _ _ _ rfl w) (by rw [b1]; exact eq_int_in d _ _ w)]
    simp only [Op.eqFields, Sem.run_pure]
    by_cases h1 : a = c <;> by_cases h2 : b = e <;> simp [h1, h2]
theorem eq_found (a b c e : Int) (w : World) : (Op.equalIn 10000 35 (.agg #[.int .i64 a, .int .i64 b]) (.agg #[.int .i64 c, .int .i64 e])).run Try.prog w = .ok (decide (a = c ∧ b = e)) w := eq_found_in 9998 a b c e w

theorem range2 {w : World} {g o : Nat} {u v : Value} (h0 : w.cell? ⟨g, o, none⟩ = some u) (h1 : w.cell? ⟨g, o + 1, none⟩ = some v) : w.rangeAt g o [u, v] := by
  intro j x hj
  match j, hj with
  | 0, hj => simp at hj; subst hj; exact h0
  | 1, hj => simp at hj; subst hj; exact h1
set_option maxHeartbeats 2000000 in
theorem sameFound_any (w : World) (a b : Option Addr) (c d n m : Nat) (k l : List (Nat × Nat)) (hk : Sl w 2 (.slice a n c) n (fcells k)) (hl : Sl w 2 (.slice b m d) m (fcells l)) (hn : k.length = n) (hm : l.length = m) :
    Calls Try.prog 12 #[.slice a n c, .slice b m d] w fun e w' => e = .returned (.bool (decide (k = l))) ∧ Below w.heap.size w w' := by
  have hkm : n ≤ 9223372036854775807 := by obtain ⟨_, _, _, _, h, _⟩ := hk; exact h
  have hlm : m ≤ 9223372036854775807 := by obtain ⟨_, _, _, _, h, _⟩ := hl; exact h
  have Hk := Lib.hid hk
  have Hl := Lib.hid hl
  clear hk hl
  by_cases hnm : n = m
  · subst hnm
    have Hn := Lib.hid hn
    have Hm := Lib.hid hm
    clear hn hm
    go_enter Try.func12, Try.ntmps12
    go_wp2_with fail
    go_loopw [5] (fun i wr => ∃ j : Nat, j ≤ n ∧ i = .int .i64 j ∧ k.take j = l.take j ∧ Below w.heap.size w wr) (fun i _ => n - (intOf i).toNat)
    case atStart => exact ⟨0, Nat.zero_le _, rfl, rfl, Below.refl _ _⟩
    case round =>
      obtain ⟨j, hj, rfl, he, hbe⟩ := hrel
      have He := Lib.hid he
      have Hbe := Lib.hid hbe
      clear he hbe
      by_cases hlt : j < n
      · have hn := Hn.out
        have hm := Hm.out
        have g0 := Hk.out.below Hbe.out
        have g1 := Hl.out.below Hbe.out
        obtain ⟨p0, o0, rfl, _, f0⟩ := g0.open_ (by rw [fcells_length]; omega)
        obtain ⟨p1, o1, rfl, _, f1⟩ := g1.open_ (by rw [fcells_length]; omega)
        have hkj : j < k.length := by omega
        have hlj : j < l.length := by omega
        have f0a := f0 _ _ (fcells_get k j hkj).1
        have f0b := f0 _ _ (fcells_get k j hkj).2
        have f1a := f1 _ _ (fcells_get l j hlj).1
        have f1b := f1 _ _ (fcells_get l j hlj).2
        obtain ⟨x1, hx1⟩ : ∃ x1, x1 = (k[j].1) := ⟨_, rfl⟩
        obtain ⟨x2, hx2⟩ : ∃ x2, x2 = (k[j].2) := ⟨_, rfl⟩
        obtain ⟨y1, hy1⟩ : ∃ y1, y1 = (l[j].1) := ⟨_, rfl⟩
        obtain ⟨y2, hy2⟩ : ∃ y2, y2 = (l[j].2) := ⟨_, rfl⟩
        rw [← hx1] at f0a
        rw [← hx2] at f0b
        rw [← hy1] at f1a
        rw [← hy2] at f1b
        clear f0 f1
        have T1 := Lib.hid (List.take_succ_eq_append_getElem hkj)
        have T2 := Lib.hid (List.take_succ_eq_append_getElem hlj)
        have HX := Lib.hid (show (k[j] = l[j]) ↔ ((x1 : Int) = (y1 : Int) ∧ (x2 : Int) = (y2 : Int)) by rw [hx1, hx2, hy1, hy2, Prod.ext_iff]; omega)
        have hz := fun w => eq_found x1 x2 y1 y2 w
        have r0 : (0 : Int) ≤ (j : Int) := by omega
        have r1 : (j : Int) < (n : Int) := by omega
        clear g0 g1 hx1 hx2 hy1 hy2 hn hm
        obtain ⟨dd, hdd⟩ : ∃ dd, dd = decide ((x1 : Int) = (y1 : Int) ∧ (x2 : Int) = (y2 : Int)) := ⟨_, rfl⟩
        simp only [← hdd] at hz
        have Hdd := Lib.hid hdd
        have inf2 : ∀ u v : Value, (Try.prog.info? 35).map (·.size) = some [u, v].length := fun u v => by kernel_rfl
        have inf2a := inf2 (.int .i64 (x1 : Int)) (.int .i64 (x2 : Int))
        have inf2b := inf2 (.int .i64 (y1 : Int)) (.int .i64 (y2 : Int))
        have und2 := und_found
        have HS := Lib.hid (show wr.drew.rangeAt p0 (o0 + j * 2) [.int .i64 (x1 : Int), .int .i64 (x2 : Int)] ∧ wr.drew.rangeAt p1 (o1 + j * 2) [.int .i64 (y1 : Int), .int .i64 (y2 : Int)] from ⟨range2 f0a f0b, range2 f1a f1b⟩)
        clear f0a f0b f1a f1b hdd inf2
        go_wp2_with fail
        refine wp_region_noPanic ?_
        refine wp_region_held_drew (S := (fun w' => w'.rangeAt p0 (o0 + j * 2) [.int .i64 (x1 : Int), .int .i64 (x2 : Int)] ∧ w'.rangeAt p1 (o1 + j * 2) [.int .i64 (y1 : Int), .int .i64 (y2 : Int)])) (by kernel_rfl) ?_ (fun hHeld => ?_)
        · (try dsimp only); exact HS.out
        refine wpAnyH_take (i := 0) (v := ?_) rfl (by kernel_rfl) (by kernel_rfl) (by kernel_rfl) (fun _ _ _ h => h) (Or.inl ⟨by rfl, ?_⟩) (by assumption) ?_
        rotate_left
        · intro w hSw; (try dsimp only at hSw); go_simp; (try with_reducible rfl)
        (try simp only [List.getElem_toArray, List.getElem_cons_succ, List.getElem_cons_zero, Act.put, List.setIfInBounds_toArray, List.set_cons_zero, List.set_cons_succ])
        refine wpAnyH_take (i := 1) (v := ?_) rfl (by kernel_rfl) (by kernel_rfl) (by kernel_rfl) (fun _ _ _ h => h) (Or.inl ⟨by rfl, ?_⟩) (by assumption) ?_
        rotate_left
        · intro w hSw; (try dsimp only at hSw); go_simp; (try with_reducible rfl)
        (try simp only [List.getElem_toArray, List.getElem_cons_succ, List.getElem_cons_zero, Act.put, List.setIfInBounds_toArray, List.set_cons_zero, List.set_cons_succ])
        refine wpAnyH_take (i := 2) (v := ?_) rfl (by kernel_rfl) (by kernel_rfl) (by kernel_rfl) (fun _ _ _ h => h) (Or.inl ⟨by rfl, ?_⟩) (by assumption) ?_
        rotate_left
        · intro w hSw; (try dsimp only at hSw); go_simp; (try with_reducible rfl)
        (try simp only [List.getElem_toArray, List.getElem_cons_succ, List.getElem_cons_zero, Act.put, List.setIfInBounds_toArray, List.set_cons_zero, List.set_cons_succ])
        refine' wpAnyH_take (i := 3) (v := _) rfl (by kernel_rfl) (by kernel_rfl) (by kernel_rfl) (fun _ _ _ h => h) (yieldsIf_load_mid (by rfl) _ _ rfl _ _ rfl _ _ ?hS3 ?hu3 ?hd3 ?hi3) (by assumption) ?rest1
        case hS3 => (intro w hSw; (try dsimp only at hSw); go_split_ands; assumption)
        case hu3 => assumption
        case hd3 => rfl
        case hi3 => first | assumption | (simp only [*]; done)
        (try simp only [List.getElem_toArray, List.getElem_cons_succ, List.getElem_cons_zero, Act.put, List.setIfInBounds_toArray, List.set_cons_zero, List.set_cons_succ])
        refine wpAnyH_take (i := 4) (v := ?_) rfl (by kernel_rfl) (by kernel_rfl) (by kernel_rfl) (fun _ _ _ h => h) (Or.inl ⟨by rfl, ?_⟩) (by assumption) ?_
        rotate_left
        · intro w hSw; (try dsimp only at hSw); go_simp; (try with_reducible rfl)
        (try simp only [List.getElem_toArray, List.getElem_cons_succ, List.getElem_cons_zero, Act.put, List.setIfInBounds_toArray, List.set_cons_zero, List.set_cons_succ])
        refine wpAnyH_take (i := 5) (v := ?_) rfl (by kernel_rfl) (by kernel_rfl) (by kernel_rfl) (fun _ _ _ h => h) (Or.inl ⟨by rfl, ?_⟩) (by assumption) ?_
        rotate_left
        · intro w hSw; (try dsimp only at hSw); go_simp; (try with_reducible rfl)
        (try simp only [List.getElem_toArray, List.getElem_cons_succ, List.getElem_cons_zero, Act.put, List.setIfInBounds_toArray, List.set_cons_zero, List.set_cons_succ])
        refine wpAnyH_take (i := 6) (v := ?_) rfl (by kernel_rfl) (by kernel_rfl) (by kernel_rfl) (fun _ _ _ h => h) (Or.inl ⟨by rfl, ?_⟩) (by assumption) ?_
        rotate_left
        · intro w hSw; (try dsimp only at hSw); go_simp; (try with_reducible rfl)
        (try simp only [List.getElem_toArray, List.getElem_cons_succ, List.getElem_cons_zero, Act.put, List.setIfInBounds_toArray, List.set_cons_zero, List.set_cons_succ])
        refine' wpAnyH_take (i := 7) (v := _) rfl (by kernel_rfl) (by kernel_rfl) (by kernel_rfl) (fun _ _ _ h => h) (yieldsIf_load_mid (by rfl) _ _ rfl _ _ rfl _ _ ?hS7 ?hu7 ?hd7 ?hi7) (by assumption) ?rest2
        case hS7 => (intro w hSw; (try dsimp only at hSw); go_split_ands; assumption)
        case hu7 => assumption
        case hd7 => rfl
        case hi7 => first | assumption | (simp only [*]; done)
        (try simp only [List.getElem_toArray, List.getElem_cons_succ, List.getElem_cons_zero, Act.put, List.setIfInBounds_toArray, List.set_cons_zero, List.set_cons_succ])
        refine wpAnyH_take (i := 8) (v := ?_) rfl (by kernel_rfl) (by kernel_rfl) (by kernel_rfl) (fun _ _ _ h => h) (Or.inl ⟨by rfl, ?_⟩) (by assumption) ?_
        rotate_left
        · intro w hSw; (try dsimp only at hSw); go_simp; (try with_reducible rfl)
        (try simp only [List.getElem_toArray, List.getElem_cons_succ, List.getElem_cons_zero, Act.put, List.setIfInBounds_toArray, List.set_cons_zero, List.set_cons_succ])
        refine wpAnyH_done (by kernel_rfl) ?_ _
        refine NoPanic.normal ?_
        have Hbe2 := Lib.hid (Hbe.out.drew)
        generalize wr.drew = w2 at Hbe2 ⊢
        cases dd with
        | true =>
          go_wp2
          go_roundw
          case rel =>
            refine ⟨j + 1, hlt, by go_num, ?_, Hbe2.out⟩
            rw [T1.out, T2.out, He.out, HX.out.2 (of_decide_eq_true Hdd.out.symm)]
          case measure => simp [intOf]; omega
        | false =>
          go_wp2
          go_ret
          refine ⟨?_, Hbe2.out⟩
          rw [decide_eq_false]
          · rfl
          · intro e
            subst e
            exact of_decide_eq_false Hdd.out.symm (HX.out.1 rfl)
      · have hjn : j = n := by omega
        have hkl : k = l := by
          have h := He.out
          rw [List.take_of_length_le (by rw [Hn.out]; omega), List.take_of_length_le (by rw [Hm.out]; omega)] at h
          exact h
        have Hkl := Lib.hid hkl
        clear hkl
        go_wp2
        go_ret
        refine ⟨?_, Hbe.out⟩
        rw [decide_eq_true Hkl.out]
        rfl
  · have hne : ((n : Int) != (m : Int)) = true := by rw [bne_iff_ne]; omega
    have Hne := Lib.hid (show k ≠ l by rintro rfl; exact hnm (hn.symm.trans hm))
    clear hn hm
    go_enter Try.func12, Try.ntmps12
    go_wp2
    go_ret
    refine ⟨?_, Below.refl _ _⟩
    rw [decide_eq_false Hne.out]
    rfl


end Go.Proofs.Ytefobboakikpbaa
