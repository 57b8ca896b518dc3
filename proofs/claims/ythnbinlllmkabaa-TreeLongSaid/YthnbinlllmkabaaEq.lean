/- Go's == on values, marks, arrays of bytes. -/
import Derived.Test.YthnbinlllmkabaaNd
import Derived.ChangeKeysEq
namespace Go.Proofs.Ythnbinlllmkabaa
open Go.RowKit
set_option linter.unusedVariables false
set_option linter.unusedSimpArgs false

theorem info_byte8 : (Try.prog.info? 5).map (fun i => (i.zero, i.size, i.bytes)) = some (some (.int .u8 0), 1, 1) := by kernel_rfl
theorem info_mark : (Try.prog.info? 26).isSome = true := by kernel_rfl
theorem all_range_eq (l m : List UInt8) (n : Nat) (hl : l.length = n) (hm : m.length = n) : ((List.range n).all fun i => decide ((l.getD i 0).toNat = (m.getD i 0).toNat)) = decide (l = m) := by
  rw [Bool.eq_iff_iff, List.all_eq_true, decide_eq_true_iff]
  constructor
  · intro h
    apply List.ext_getElem (by omega)
    intro i h1 h2
    have := h i (by simp; omega)
    rw [decide_eq_true_iff] at this
    simp only [List.getD_eq_getElem?_getD, List.getElem?_eq_getElem h1, List.getElem?_eq_getElem h2, Option.getD_some] at this
    exact UInt8.toNat_inj.1 this
  · rintro rfl i _
    simp
theorem u8_beq (a b : UInt8) : ((a.toNat : Int) == (b.toNat : Int)) = decide (a.toNat = b.toNat) := by
  by_cases h : a.toNat = b.toNat
  · rw [h]; simp
  · have : ((a.toNat : Int) == (b.toNat : Int)) = false := by rw [beq_eq_false_iff_ne]; omega
    rw [this, decide_eq_false h]
/-- == of arrays of 32 bytes. -/
theorem eq_sum_in (d : Nat) (l m : List UInt8) (hl : l.length = 32) (hm : m.length = 32) (w : World) : (Op.equalIn (d + 1 + 1) 22 (.agg (bytes l).toArray) (.agg (bytes m).toArray)).run Try.prog w = .ok (decide (l = m)) w := by
  obtain ⟨i0, hi, _⟩ := info_parts info_byte8
  have hc : Try.prog.cellsOf 5 = 1 := by kernel_rfl
  have hp : Try.prog.plainKey 5 = true := by kernel_rfl
  rw [run_equalIn_array w (d + 1) _ _ Try.underlying22 hi, hc, ← all_range_eq l m 32 hl hm]
  have key : ∀ is : List Nat, (∀ i ∈ is, i < 32) → (Op.eqItems (d + 1) 5 1 (bytes l).toArray (bytes m).toArray is).run Try.prog w = .ok (is.all fun i => decide ((l.getD i 0).toNat = (m.getD i 0).toNat)) w := by
    intro is
    induction is with
    | nil => intro _; simp [Op.eqItems]
    | cons i is ih =>
      intro hi2
      have hi32 : i < 32 := hi2 i (by simp)
      have hgl : (bytes l).toArray[i * 1]? = some (.int .u8 ((l.getD i 0).toNat)) := by rw [Nat.mul_one, List.getElem?_toArray]; exact bytes_getD l i (by omega)
      have hgm : (bytes m).toArray[i * 1]? = some (.int .u8 ((m.getD i 0).toNat)) := by rw [Nat.mul_one, List.getElem?_toArray]; exact bytes_getD m i (by omega)
      have hq : (Op.equalIn (d + 1) 5 (.int .u8 ((l.getD i 0).toNat)) (.int .u8 ((m.getD i 0).toNat))).run Try.prog w = .ok (decide ((l.getD i 0).toNat = (m.getD i 0).toNat)) w := by
        rw [← u8_beq]
        simp [Op.equalIn, run_underlying Try.underlying5]
      simp only [Op.eqItems, Sem.run_bind, run_part_plain w hp hgl, run_part_plain w hp hgm, Result.andThen_ok, hq, List.all_cons]
      cases hd : decide ((l.getD i 0).toNat = (m.getD i 0).toNat) with
      | true => simpa using ih (fun j hj => hi2 j (by simp [hj]))
      | false => simp
  exact key _ (fun i hi => by simpa using hi)
theorem eq_sum (l m : List UInt8) (hl : l.length = 32) (hm : m.length = 32) (w : World) : (Op.equalIn 10000 22 (.agg (bytes l).toArray) (.agg (bytes m).toArray)).run Try.prog w = .ok (decide (l = m)) w := eq_sum_in 9998 l m hl hm w
theorem run_part_agg {P : Program} {t : TypeId} {n : Nat} (ha : ∀ w, (isAgg t).run P w = .ok true w) (hs : ∀ w, (sizeOf t).run P w = .ok n w) (xs : Array Value) (off : Nat) (w : World) : (part t xs off).run P w = .ok (.agg (xs.extract off (off + n))) w := by
  simp [part, ha, hs]
theorem run_part_one {P : Program} {t : TypeId} (ha : ∀ w, (isAgg t).run P w = .ok false w) (xs : Array Value) (off : Nat) (v : Value) (hv : xs[off]? = some v) (w : World) : (part t xs off).run P w = .ok v w := by
  simp [part, ha, hv]
theorem agg_sum : ∀ w, (isAgg 22).run Try.prog w = .ok true w := fun w => by kernel_rfl
theorem size_sum : ∀ w, (sizeOf 22).run Try.prog w = .ok 32 w := fun w => by kernel_rfl
theorem agg_int : ∀ w, (isAgg 3).run Try.prog w = .ok false w := fun w => by kernel_rfl
theorem agg_mark : ∀ w, (isAgg 26).run Try.prog w = .ok true w := fun w => by kernel_rfl
theorem size_mark : ∀ w, (sizeOf 26).run Try.prog w = .ok 2 w := fun w => by kernel_rfl
theorem fields_value : ((Try.prog.fieldsOf 24).toList.map fun f => (f.name, f.type, f.offset)) = [("Kind", 3, 0), ("Mode", 3, 1), ("Size", 3, 2), ("Sum", 22, 3)] := by kernel_rfl
theorem fields_mark : ((Try.prog.fieldsOf 26).toList.map fun f => (f.name, f.type, f.offset)) = [("Number", 3, 0), ("Stamp", 3, 1)] := by kernel_rfl
theorem und_value : Try.prog.underlying 24 = some (.struct (Try.prog.fieldsOf 24)) := by kernel_rfl
theorem und_mark : Try.prog.underlying 26 = some (.struct (Try.prog.fieldsOf 26)) := by kernel_rfl
theorem eqFields_cons {P : Program} (d : Nat) (xs ys : Array Value) (f : Field) (fs : List Field) (a b : Value) (r : Bool) (hn : f.name ≠ "_") (w : World) (h1 : (part f.type xs f.offset).run P w = .ok a w) (h2 : (part f.type ys f.offset).run P w = .ok b w)
    (h3 : (Op.equalIn d f.type a b).run P w = .ok r w) : (Op.eqFields d xs ys (f :: fs)).run P w = if r then (Op.eqFields d xs ys fs).run P w else .ok false w := by
  simp only [Op.eqFields, if_pos hn, Sem.run_bind, h1, Result.andThen_ok, h2, h3]
  cases r <;> simp
theorem int_beq (a b : Int) : (a == b) = decide (a = b) := by
  by_cases h : a = b
  · subst h; simp
  · have : (a == b) = false := by rw [beq_eq_false_iff_ne]; exact h
    rw [this, decide_eq_false h]
theorem eq_int_in (d : Nat) (a b : Int) (w : World) : (Op.equalIn (d + 1) 3 (.int .i64 a) (.int .i64 b)).run Try.prog w = .ok (decide (a = b)) w := by
  rw [← int_beq]
  exact run_equalIn_int w d _ .i64 .i64 a b Try.underlying3
theorem vl_get (v : Vl) : v.cells.toArray[0]? = some (.int .i64 v.kind) ∧ v.cells.toArray[1]? = some (.int .i64 v.mode) ∧ v.cells.toArray[2]? = some (.int .i64 v.size) := ⟨rfl, rfl, rfl⟩
theorem vl_sum (v : Vl) (h : v.sum.length = 32) : v.cells.toArray.extract 3 35 = (bytes v.sum).toArray := by
  apply Array.ext'
  rw [Array.toList_extract]
  simp [Vl.cells, List.extract_eq_take_drop, List.take_of_length_le, bytes_length, h]
/-- == of values. -/
theorem eq_value (v u : Vl) (hv : v.sum.length = 32) (hu : u.sum.length = 32) (w : World) : (Op.equalIn 10000 24 (.agg v.cells.toArray) (.agg u.cells.toArray)).run Try.prog w = .ok (decide (v = u)) w := by
  rw [run_equalIn_struct w 9999 _ _ _ und_value (by kernel_rfl)]
  have hf := fields_value
  generalize (Try.prog.fieldsOf 24).toList = fs at hf
  obtain ⟨f0, fs1, rfl, g0, hf⟩ := List.map_eq_cons_iff.1 hf
  obtain ⟨f1, fs2, rfl, g1, hf⟩ := List.map_eq_cons_iff.1 hf
  obtain ⟨f2, fs3, rfl, g2, hf⟩ := List.map_eq_cons_iff.1 hf
  obtain ⟨f3, fs4, rfl, g3, hf⟩ := List.map_eq_cons_iff.1 hf
  obtain rfl := List.map_eq_nil_iff.1 hf
  · simp only [Prod.mk.injEq] at g0 g1 g2 g3
    obtain ⟨a0, b0, c0⟩ := g0
    obtain ⟨a1, b1, c1⟩ := g1
    obtain ⟨a2, b2, c2⟩ := g2
    obtain ⟨a3, b3, c3⟩ := g3
    have gv := vl_get v
    have gu := vl_get u
    rw [eqFields_cons 9999 _ _ f0 _ (.int .i64 v.kind) (.int .i64 u.kind) (decide (v.kind = u.kind)) (by rw [a0]; decide) w (by rw [b0, c0]; exact run_part_one agg_int _ _ _ gv.1 w) (by rw [b0, c0]; exact run_part_one agg_int _ _ _ gu.1 w) (by rw [b0]; exact eq_int_in 9998 _ _ w)]
    rw [eqFields_cons 9999 _ _ f1 _ (.int .i64 v.mode) (.int .i64 u.mode) (decide (v.mode = u.mode)) (by rw [a1]; decide) w (by rw [b1, c1]; exact run_part_one agg_int _ _ _ gv.2.1 w) (by rw [b1, c1]; exact run_part_one agg_int _ _ _ gu.2.1 w) (by rw [b1]; exact eq_int_in 9998 _ _ w)]
    rw [eqFields_cons 9999 _ _ f2 _ (.int .i64 v.size) (.int .i64 u.size) (decide (v.size = u.size)) (by rw [a2]; decide) w (by rw [b2, c2]; exact run_part_one agg_int _ _ _ gv.2.2 w) (by rw [b2, c2]; exact run_part_one agg_int _ _ _ gu.2.2 w) (by rw [b2]; exact eq_int_in 9998 _ _ w)]
    rw [eqFields_cons 9999 _ _ f3 [] (.agg (bytes v.sum).toArray) (.agg (bytes u.sum).toArray) (decide (v.sum = u.sum)) (by rw [a3]; decide) w (by rw [b3, c3, run_part_agg agg_sum size_sum]; rw [vl_sum v hv]) (by rw [b3, c3, run_part_agg agg_sum size_sum]; rw [vl_sum u hu]) (by rw [b3]; exact eq_sum_in 9997 _ _ hv hu w)]
    obtain ⟨k1, m1, s1, x1⟩ := v
    obtain ⟨k2, m2, s2, x2⟩ := u
    simp only [Vl.mk.injEq, Op.eqFields, Sem.run_pure]
    by_cases hk : k1 = k2 <;> by_cases hm : m1 = m2 <;> by_cases hs : s1 = s2 <;> by_cases hx : x1 = x2 <;> simp [hk, hm, hs, hx]
theorem eq_mark_in (d : Nat) (a b c e : Int) (w : World) : (Op.equalIn (d + 1 + 1) 26 (.agg #[.int .i64 a, .int .i64 b]) (.agg #[.int .i64 c, .int .i64 e])).run Try.prog w = .ok (decide (a = c ∧ b = e)) w := by
  rw [run_equalIn_struct w (d + 1) _ _ _ und_mark (by kernel_rfl)]
  have hf := fields_mark
  generalize (Try.prog.fieldsOf 26).toList = fs at hf
  obtain ⟨f0, fs1, rfl, g0, hf⟩ := List.map_eq_cons_iff.1 hf
  obtain ⟨f1, fs2, rfl, g1, hf⟩ := List.map_eq_cons_iff.1 hf
  obtain rfl := List.map_eq_nil_iff.1 hf
  · simp only [Prod.mk.injEq] at g0 g1
    obtain ⟨a0, b0, c0⟩ := g0
    obtain ⟨a1, b1, c1⟩ := g1
    rw [eqFields_cons (d + 1) _ _ f0 _ (.int .i64 a) (.int .i64 c) (decide (a = c)) (by rw [a0]; decide) w (by rw [b0, c0]; exact run_part_one agg_int _ _ _ rfl w) (by rw [b0, c0]; exact run_part_one agg_int _ _ _ rfl w) (by rw [b0]; exact eq_int_in d _ _ w)]
    rw [eqFields_cons (d + 1) _ _ f1 [] (.int .i64 b) (.int .i64 e) (decide (b = e)) (by rw [a1]; decide) w (by rw [b1, c1]; exact run_part_one agg_int _ _ _ rfl w) (by rw [b1, c1]; exact run_part_one agg_int _ _ _ rfl w) (by rw [b1]; exact eq_int_in d _ _ w)]
    simp only [Op.eqFields, Sem.run_pure]
    by_cases h1 : a = c <;> by_cases h2 : b = e <;> simp [h1, h2]
theorem eq_mark (a b c e : Int) (w : World) : (Op.equalIn 10000 26 (.agg #[.int .i64 a, .int .i64 b]) (.agg #[.int .i64 c, .int .i64 e])).run Try.prog w = .ok (decide (a = c ∧ b = e)) w := eq_mark_in 9998 a b c e w
/-- == of pairs of marks. -/
theorem eq_marks (m u : Mk × Mk) (w : World) : (Op.equalIn 10000 27 (.agg (mcells m).toArray) (.agg (mcells u).toArray)).run Try.prog w = .ok (decide (m = u)) w := by
  obtain ⟨i0, hi⟩ := Option.isSome_iff_exists.1 info_mark
  have hc : Try.prog.cellsOf 26 = 2 := by kernel_rfl
  rw [run_equalIn_array w 9999 _ _ Try.underlying27 hi, hc]
  obtain ⟨⟨a, b⟩, ⟨c, e⟩⟩ := m
  obtain ⟨⟨a', b'⟩, ⟨c', e'⟩⟩ := u
  have h0 : ∀ (q0 q1 q2 q3 : Value) (w : World), (part 26 #[q0, q1, q2, q3] (0 * 2)).run Try.prog w = .ok (.agg #[q0, q1]) w := fun q0 q1 q2 q3 w => by rw [run_part_agg agg_mark size_mark]; rfl
  have h1 : ∀ (q0 q1 q2 q3 : Value) (w : World), (part 26 #[q0, q1, q2, q3] 2).run Try.prog w = .ok (.agg #[q2, q3]) w := fun q0 q1 q2 q3 w => by rw [run_part_agg agg_mark size_mark]; rfl
  rw [show List.range 2 = [0, 1] from rfl]
  simp only [mcells]
  simp only [Op.eqItems, Sem.run_bind, h0, Nat.one_mul, h1, Result.andThen_ok, eq_mark_in 9997]
  by_cases p1 : a = a' ∧ b = b'
  · by_cases p2 : c = c' ∧ e = e' <;> simp [p1, p2, h1, eq_mark_in 9997]
  · simp [p1]
theorem eqg_value (op : BinOp) (x y : Operand) (xs ys : Array Value) (w : World) : (eqGuard op 24 x y (.agg xs) (.agg ys)).run Try.prog w = .ok () w := run_eqGuard_agg w op _ x y xs ys (by kernel_rfl)
end Go.Proofs.Ythnbinlllmkabaa
