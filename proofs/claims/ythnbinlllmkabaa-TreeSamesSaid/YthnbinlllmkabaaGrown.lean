/- The law's grown, walked. -/
import Derived.Test.YthnbinlllmkabaaGrow
import Derived.Test.YthnbinlllmkabaaSame
import Derived.Test.YthnbinlllmkabaaBuild
namespace Go.Proofs.Ythnbinlllmkabaa
open Go.RowKit
set_option linter.unusedVariables false
set_option linter.unusedSimpArgs false

/-- No place is shut out. -/
def Any : Nat → Prop := fun _ => True
theorem TreeAt.any {F : Nat → Prop} {w : World} {d p : Nat} {n : Nd} (h : TreeAt w F d p n) : TreeAt w Any d p n := TreeAt.mono (fun _ _ _ => trivial) _ _ _ h
/-- What grown tells. -/
def GrownV (w : World) (d : Nat) (n : Nd) (v : Value) : Prop := v = .pointer none ∨ ∃ p, v = .pointer (some ⟨p, 0, none⟩) ∧ TreeAt w Any d p n ∧ chkErr n = 0 ∧ n.parts ≤ 20000
theorem GrownV.below {w w' : World} {d : Nat} {n : Nd} {v : Value} (h : GrownV w d n v) (hb : Below w.heap.size w w') : GrownV w' d n v := by
  rcases h with h | ⟨p, h1, h2, h3⟩
  · exact .inl h
  · exact .inr ⟨p, h1, h2.below hb, h3⟩
set_option maxHeartbeats 2000000 in
set_option maxRecDepth 100000 in
theorem grown_any (F : Nat → Prop) (d : Nat) (w : World) (n : Nd) (a : Option Addr) (c : Nat) (hn : NodeIn w F d n a) (hF : ∀ b, F b → b < w.heap.size) :
    Calls Try.prog 41 #[.agg (n.row a c).toArray] w fun e w' => ∃ v, e = .returned v ∧ GrownV w' (d + 1) n v ∧ Below w.heap.size w w' := by
  have hvwf := Lib.hid (row_len (a := a) (c := c) hn.vwf)
  have Hn := Lib.hid hn
  have HF := Lib.hid hF
  have Hr1 := Lib.hid (rangeAt_row (heap_alloc_new w (.cells (n.row a c).toArray 30)))
  have hbs : (Instr.buildSlice 28 1 #[(0, .agg (n.row a c).toArray)]).run Try.prog (w.alloc (.cells (n.row a c).toArray 30)) = .ok (.slice (some ⟨w.heap.size + 1, 0, none⟩) 1 1) ((w.alloc (.cells (n.row a c).toArray 30)).alloc (.cells (n.row a c).toArray 30)) := by
    have h := build_node n a c hn.vwf.1 (w.alloc (.cells (n.row a c).toArray 30))
    rw [World.size_alloc] at h
    exact h
  have Hbs := Lib.hid hbs
  clear hn hF hbs
  go_enter Try.func41, Try.ntmps41
  go_wp2_with (first | (refine wpList_load_midg (by rfl) 30 (.tmp 1) rfl w.heap.size 0 rfl (n.row a c) _ Hr1.out Try.underlying30 rfl (by rw [hvwf.out]; kernel_rfl) ?_) | (refine wpList_buildSlice_eq (by rfl) 28 1 #[(0, .tmp 5)] rfl #[(0, .agg (n.row a c).toArray)] (by kernel_rfl) (.slice (some ⟨w.heap.size + 1, 0, none⟩) 1 1) Hbs.out ?_))
  have hb2' := on_alloc (on_alloc (Below.refl _ w) (.cells (n.row a c).toArray 30)) (.cells (n.row a c).toArray 30)
  have hblk2 := (Below.heap_alloc (w.alloc (.cells (n.row a c).toArray 30)) (.cells (n.row a c).toArray 30) w.heap.size (by simp)).trans (heap_alloc_new w (.cells (n.row a c).toArray 30))
  have hr2 := rangeAt_row (heap_alloc2_new w (.cells (n.row a c).toArray 30) (.cells (n.row a c).toArray 30))
  have hsz2 : ((w.alloc (.cells (n.row a c).toArray 30)).alloc (.cells (n.row a c).toArray 30)).heap.size = w.heap.size + 2 := by simp
  generalize (w.alloc (.cells (n.row a c).toArray 30)).alloc (.cells (n.row a c).toArray 30) = w2 at hb2' hblk2 hr2 hsz2 ⊢
  have hn2 := Hn.out.below hb2'
  have hk2 : KidsIn w2 (fun b => b < w2.heap.size) (d + 1) (some ⟨w.heap.size + 1, 0, none⟩) [n] := fun i k hk => by
    match i, hk with
    | 0, hk =>
      injection hk with hk
      subst hk
      refine ⟨w.heap.size + 1, 0, a, c, rfl, by omega, ?_, hn2.vwf, hn2.mwf, hn2.nsz, hn2.ksz, KidsIn.mono (fun b hb _ => by have := HF.out b hb; omega) _ _ _ hn2.kids⟩
      exact hr2
    | i + 1, hk => simp at hk
  have Hb2 := Lib.hid hb2'
  have Hblk2 := Lib.hid hblk2
  have Hfew := Lib.hid (few_any (fun b => b < w2.heap.size) (d + 1) w2 [n] 1 (some ⟨w.heap.size + 1, 0, none⟩) 1 hk2 (fun b hb => hb) rfl (by omega))
  clear hb2' hr2 hn2 hk2 hblk2 Hr1
  refine Hfew.out.mono ?_
  rintro e3 w3 ⟨b, rfl, hfew, hb3⟩
  have Hb3 := Lib.hid (below_on Hb2.out hb3)
  have Hr3 := Lib.hid (rangeAt_row ((hb3.block _ (by omega)).trans Hblk2.out))
  have hsz3 : w2.heap.size ≤ w3.heap.size := hb3.size
  have hp : b = true → n.parts ≤ 20000 := fun h => by have := hfew h; simpa [partsAll] using this
  have Hp := Lib.hid hp
  clear hfew hb3 Hfew hp
  cases b with
  | false =>
    go_wp2
    go_ret
    exact ⟨_, rfl, .inl rfl, Hb3.out⟩
  | true =>
    have hpt := Hp.out rfl
    by_cases hc : chkErr n = 0
    · have H := Lib.hid (of_good w3 F d n a c (Hn.out.below Hb3.out) (fun b hb => by have := HF.out b hb; omega) (by omega) hc)
      have Hc := Lib.hid hc
      clear hc
      go_wp2_with (refine wpList_load_midg (by rfl) 30 (.tmp 1) rfl w.heap.size 0 rfl (n.row a c) _ Hr3.out Try.underlying30 rfl (by rw [hvwf.out]; kernel_rfl) ?_)
      refine H.out.mono ?_
      rintro e4 w4 ⟨p, rfl, ht4, hb4⟩
      have H4 := Lib.hid (And.intro ht4.any (below_on Hb3.out hb4))
      clear ht4 hb4 H
      go_wp2
      go_ret
      exact ⟨_, rfl, .inr ⟨p, rfl, H4.out.1, Hc.out, hpt⟩, H4.out.2⟩
    · have H := Lib.hid (of_bad w3 F d n a c (Hn.out.below Hb3.out) (by omega) hc)
      obtain ⟨z, hz⟩ : ∃ z, z = chkErr n := ⟨_, rfl⟩
      rw [← hz] at H hc
      have hz0 : (z != 0) = true := by rw [bne_iff_ne]; exact hc
      clear hz hc
      go_wp2_with (refine wpList_load_midg (by rfl) 30 (.tmp 1) rfl w.heap.size 0 rfl (n.row a c) _ Hr3.out Try.underlying30 rfl (by rw [hvwf.out]; kernel_rfl) ?_)
      refine H.out.mono ?_
      rintro e4 w4 ⟨rfl, hb4⟩
      have H4 := Lib.hid (below_on Hb3.out hb4)
      clear hb4 H
      go_wp2
      go_ret
      exact ⟨_, rfl, .inl rfl, H4.out⟩
end Go.Proofs.Ythnbinlllmkabaa
