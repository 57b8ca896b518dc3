/- A side of the script of plays: a piece, and bytes, are added. -/
import Derived.Test.YtefobboakikpbaaDoorPlay2
import Derived.Deep.MidRow
namespace Go.Proofs.YtefobboakikpbaaDoor
open Go.RowKit
set_option linter.unusedVariables false
set_option linter.unusedSimpArgs false
theorem still_load_mid {P : Program} {ops : Array Oper} {rest : List Oper} {op : Oper} {a : Act} {w : World} {Q : Act → Prop} (hgd : op.guard = none) (ty : TypeId) (x : Operand) (ho : op.op = .load ty x)
    (b o : Nat) (hx : a.eval x = .pointer (some ⟨b, o, none⟩)) (cs : List Value) (d : TypeDesc) (hc : w.rangeAt b o cs)
    (hu : P.underlying ty = some d) (hd : d.isRow = true) (hi : (P.info? ty).map (·.size) = some cs.length)
    (h : wpStill P ops w Q rest (a.put op.dst (.agg cs.toArray))) : wpStill P ops w Q (op :: rest) a := by
  unfold wpStill
  rw [if_pos (by simp [Region.wanted, hgd])]
  unfold Oper.still execOp
  simp only [ho, hx, Instr.loadAt, Instr.sureAddr, Sem.run_bind, Sem.run_pure, Result.andThen_ok, run_loadVar_mid w b o ty cs d hc hu hd hi]
  exact ⟨rfl, h⟩
theorem HashAt.off {w : World} {p s : Nat} {g : Option Nat} {l : List UInt8} {cs : Array Value} {T : TypeId} {fr : Nat × Nat} (h : HashAt w p g l) (hs : w.heap[s]? = some (.cells cs T fr)) (h1 : T ≠ 88) (h2 : 5 ≠ T) : s ≠ p ∧ g ≠ some s := by
  obtain ⟨st, a, c, rest, hrow, hown, hgb, _⟩ := h
  refine ⟨fun e => ?_, fun e => hown.apart hs h2 (by rw [hgb, e])⟩
  subst e
  rw [hs] at hrow
  injection hrow with hrow
  injection hrow with _ h3 _
  exact h1 h3
theorem HashAt.apart {w : World} {p n : Nat} {g : Option Nat} {l : List UInt8} {v : Value} {xs : List Value} (h : HashAt w p g l) (ho : Own w 5 1 v n xs) : v.ownBlock ≠ some p := by
  obtain ⟨st, a, c, rest, hrow, _⟩ := h
  exact ho.apart hrow (by decide)
set_option maxHeartbeats 1000000 in
set_option maxRecDepth 100000 in
theorem plays4 (w : World) (s : Nat) (lh lp : List UInt8) (F : Nat → Prop) (h : SideAt w s lh lp F) (which : Int) (a : Option Addr) (c n : Nat) (pc : List UInt8) (C : Array Value) (hC : OpC C 4 which a n c pc) (hk : KeysAt w) (hlen : lp.length ≤ 35184372088832) (hFw : ¬ F 2) :
    Calls Tryd.prog 19 #[.pointer (some ⟨s, 0, none⟩), .agg C] w fun e w' => e = .returned (.bool true) ∧ ∃ F', SideAt w' s lh (lp ++ pc) F' ∧ (∀ k, F' k → F k ∨ w.heap.size ≤ k) ∧ Upd F w w' := by
  obtain ⟨ph, q, pp, cb, cp, gh, gp, ab, ap, hrow, hh, hp, hob, hop, d1, d2, d3, d4, d5, d6, hF, hlt⟩ := h
  obtain ⟨n1, hn1⟩ : ∃ n1, n1 = lh.length := ⟨_, rfl⟩
  obtain ⟨n2, hn2⟩ : ∃ n2, n2 = lp.length := ⟨_, rfl⟩
  rw [← hn1, ← hn2] at hrow
  rw [← hn1] at hob
  rw [← hn2] at hop
  have Hn2 := Lib.hid hn2
  have Hp := Lib.hid hp
  have Hh := Lib.hid hh
  have Hob := Lib.hid hob
  have HC := Lib.hid hC
  have Hk := Lib.hid hk
  have Hn1 := Lib.hid hn1
  have hCs := Lib.hid hC.size
  have Hrow := Lib.hid hrow
  have Hop := Lib.hid hop
  have Hd := Lib.hid (And.intro d1 (And.intro d2 (And.intro d3 (And.intro d4 (And.intro d5 d6)))))
  have HF := Lib.hid hF
  have Hlt := Lib.hid hlt
  have HFw := Lib.hid hFw
  have hlen2 : n2 ≤ 35184372088832 := by omega
  clear hh hp hob hop d1 d2 d3 d4 d5 d6 hF hlt hFw hC hk hn1 hn2 hrow hlen
  obtain ⟨w1, hw1⟩ : ∃ w1, w1 = w.alloc (.cells C 35) := ⟨_, rfl⟩
  have hb1 : Below w.heap.size w w1 := by rw [hw1]; exact on_alloc (Below.refl _ _) _
  have hat := HC.out.at w1 w.heap.size (by rw [hw1]; exact heap_alloc_new _ _)
  obtain ⟨f0, f1, f2, f3⟩ := hat
  have hr1 := (hb1.block _ (lt_heap Hrow.out)).trans Hrow.out
  have s0 := cell_of_row w1 s 0 _ _ _ hr1
  have s1 := cell_of_row w1 s 1 _ _ _ hr1
  have s2 := cell_of_row w1 s 2 _ _ _ hr1
  have s3 := cell_of_row w1 s 3 _ _ _ hr1
  simp at s0 s1 s2 s3
  have Hb1 := Lib.hid hb1
  have F3 := Lib.hid f3
  clear hb1 hr1 f3
  go_enter Tryd.func19, Tryd.ntmps19
  have HG1 : Hid (w1.heap[w.heap.size]? = some (.cells C 35 (0, 0))) := by show _ = _; rw [hw1]; exact heap_alloc_new _ _
  rw [hw1] at f0 f1 f2 s0 s1 s2 s3
  go_wp2_with fail
  rw [← hw1] at f0 f1 f2 s0 s1 s2 s3 ⊢
  clear hw1
  obtain ⟨G, hG⟩ : ∃ G, G = w.heap.size := ⟨_, rfl⟩
  have HG := Lib.hid hG
  have F4 : w1.drew.rangeAt G 3 (bytes pc) := by rw [hG]; simpa using F3.out
  rw [← hG] at f0 f1 f2 HG1 ⊢
  have hfG : ∀ k, F k → k ≠ G := fun k hk => by have := Hlt.out k hk; omega
  clear hG
  have Hpc := Lib.hid HC.out.2
  have HFG := Lib.hid hfG
  clear hfG
  go_still_tail 6, (by kernel_rfl)
  refine still_load_mid rfl 26 (.tmp 90) rfl G 3 rfl (bytes pc) _ F4 Tryd.underlying26 rfl (by rw [bytes_length, Hpc.out]; kernel_rfl) ?_
  change wpList _ _ _ _ _ w1.drew
  go_wp2_with fail
  have hbd : Below w.heap.size w w1.drew := on_drew Hb1.out
  refine (piecesAdd_any w1.drew q pp gp lp (Hp.out.kept (Upd.below hbd fun _ => False) id id (fun _ _ => id)) _ pc (by simp) Hpc.out (Hk.out.below hbd) (by rw [← Hn2.out]; omega) (fun e => HFw.out (HF.out _ (by simp [e]))) (fun e => HFw.out (HF.out _ (by simp [e])))).mono ?_
  rintro e w2 ⟨rfl, g', hp2, hg2, hu2⟩
  have hu2' : Upd (fun k => k = pp ∨ gp = some k) w w2 := (Upd.below hbd _).trans hu2
  have hFpp : F pp := HF.out _ (by simp)
  have hFgp : ∀ k, gp = some k → F k := fun k hk => HF.out _ (by simp [hk])
  have hG2 : w2.heap[G]? = some (.cells C 35 (0, 0)) := (hu2.block G (lt_heap HG1.out) (by rintro (h | h); exact HFG.out _ hFpp h.symm; exact HFG.out _ (hFgp _ h) rfl)).trans HG1.out
  have hoff := Hp.out.2.1.off Hrow.out (by decide) (by decide)
  have hr2 := hu2'.at_ Hrow.out (by rintro (h | h); exact hoff.1 h; exact hoff.2 h)
  have hop2 := Hop.out.kept hu2' (fun k hk => by rintro (h | h); exact Hp.out.2.1.apart Hop.out (by rw [hk, h]); exact (Hd.out.2.2.2.1 k (by rw [← Hn2.out]; exact hk)).2 h)
  have hsl2 : Sl w2 1 (.slice (some ⟨G, 3, none⟩) 32 32) 32 (bytes pc) := by
    have hr := (HC.out.at w2 G hG2).2.2.2
    refine ⟨_, 32, rfl, by rw [bytes_length, Hpc.out], by decide, fun _ => ⟨_, rfl, fun j u hj => ?_⟩⟩
    rw [add_off]
    exact hr j u hj
  have s3' := cell_of_row w2 s 3 _ _ _ hr2
  simp at s3'
  obtain ⟨i0, hi, hz0, hz1, hz2⟩ := info_parts info_byte
  have hcap : n2 ≤ cp := by
    rcases Hop.out.2.2 with ⟨hv, h0⟩ | ⟨_, _, _, _, hv, _, hnc, _⟩
    · omega
    · injection hv with _ _ hc; omega
  have hsap : (Value.slice ap n2 cp).ownBlock ≠ some s := Hop.out.apart Hrow.out (by decide)
  have Hsap := Lib.hid hsap
  have Hop2 := Lib.hid hop2
  have Hr2 := Lib.hid hr2
  have Hsl2 := Lib.hid hsl2
  have HG2 := Lib.hid hG2
  have Hp2 := Lib.hid hp2
  have Hg2 := Lib.hid hg2
  have Hu2 := Lib.hid hu2'
  have Hoff := Lib.hid hoff
  have hszw : w.heap.size ≤ w1.heap.size := Hb1.out.size
  have hsz2 : w1.heap.size ≤ w2.heap.size := hu2.size
  clear hp2 hg2 hu2' hu2 hbd hFpp hFgp hop2 hr2 hsl2 hG2 hoff s0 s1 s2 s3 f0 f1 f2 F4 hsap
  go_wp2_with fail
  go_region_law
    ((refine step_append_any rfl _ _ 24 rfl 5 i0 (.int .u8 0) 1 1 Tryd.underlying24 hi hz0 hz1 hz2 rfl (by decide) (.slice ap n2 cp) n2 (bytes lp) (.slice (some ⟨G, 3, none⟩) 32 32) 32 (bytes pc) rfl rfl (Hop2.out.kept (Upd.refl (fun _ => False) w2).drew (fun _ _ => id)) (Hsl2.out.kept (Upd.refl (fun _ => False) w2).drew (fun _ _ _ => id)) (bytes_one pc) (by omega) (by omega) ?_
      intro a4 c4 w4 hown4 hgr4 hb4
      have hu4 : Upd (fun k => (Value.slice ap n2 cp).ownBlock = some k) w2 w4 := Upd.grown (Upd.refl _ w2).drew hgr4 (fun k hk _ => hk)
      have hr4 := hu4.at_ Hr2.out Hsap.out
      have s4' := cell_of_row w4 s 3 _ _ _ hr4
      simp at s4'
      have z3 := frozen_of_row w4 s 3 _ _ hr4
      have Hr4 := Lib.hid hr4
      have Hu4 := Lib.hid hu4
      have Hown4 := Lib.hid hown4
      have Hb4 := Lib.hid hb4
      clear hu4 hown4 hb4 hgr4 hr4))
  go_wp2
  go_ret
  have hs5 := heap_setCell_same w4 s 3 _ _ (.slice a4 (n2 + 32) c4) Hr4.out
  simp at hs5
  have hu5 : Upd (fun k => k = s) w4 (w4.setCell ⟨s, 3, none⟩ (.slice a4 (n2 + 32) c4)) := (Upd.refl _ _).setCell _ _ (fun _ => rfl)
  have hu25 : Upd (fun k => k = s ∨ (Value.slice ap n2 cp).ownBlock = some k) w2 (w4.setCell ⟨s, 3, none⟩ (.slice a4 (n2 + 32) c4)) := (Hu4.out.mono fun _ _ h => .inr h).trans (hu5.mono fun _ _ h => .inl h)
  have h4s : (Value.slice a4 (n2 + 32) c4).ownBlock ≠ some s := Hown4.out.apart Hr4.out (by decide)
  generalize w4.setCell ⟨s, 3, none⟩ (.slice a4 (n2 + 32) c4) = w5 at hs5 hu5 hu25 ⊢
  obtain rfl := Hn1.out
  obtain rfl := Hn2.out
  obtain ⟨d1, d2, d3, d4, d5, d6⟩ := Hd.out
  have l1 := Hh.out.lt
  have l2 := Hp.out.2.1.lt
  have l3 := fun k => Hob.out.lt (k := k)
  have l4 := fun k => Hop.out.lt (k := k)
  have o1 := Hh.out.off Hrow.out (by decide) (by decide)
  have o2 := Hoff.out
  have o3 := Hh.out.apart Hop.out
  have o4 := Hp.out.2.1.apart Hop.out
  have o5 := Hp.out.2.1.apart Hob.out
  have o6 : (Value.slice ab lh.length cb).ownBlock ≠ some s := Hob.out.apart Hrow.out (by decide)
  have o7 := Hsap.out
  have o8 : q ≠ s := fun e => by
    have h := Hp.out.1
    rw [e, Hrow.out] at h
    simp at h
  have o9 : (Value.slice ap lp.length cp).ownBlock ≠ some q := Hop.out.apart Hp.out.1 (by decide)
  have hg' : ∀ k, g' = some k → gp = some k ∨ w.heap.size ≤ k := fun k hk => (Hg2.out k hk).imp id (fun h => by have : w1.heap.size ≤ k := h; omega)
  have h4' : ∀ k, (Value.slice a4 (lp.length + 32) c4).ownBlock = some k → (Value.slice ap lp.length cp).ownBlock = some k ∨ w2.heap.size ≤ k := fun k hk => by
    by_cases h : (Value.slice ap lp.length cp).ownBlock = some k
    · exact .inl h
    · exact .inr (Hb4.out k h hk)
  have l5 := Hp2.out.2.1.lt
  have hll : (lp ++ pc).length = lp.length + 32 := by rw [List.length_append, Hpc.out]
  refine ⟨rfl, fun k => F k ∨ g' = some k ∨ (Value.slice a4 (lp.length + 32) c4).ownBlock = some k, ⟨ph, q, pp, cb, c4, gh, g', ab, a4, ?_, ?_, ?_, ?_, ?_, d1, ?_, ?_, ?_, d5, ?_, ?_, ?_⟩, ?_, ?_⟩
  · rw [hll]; exact hs5
  · refine (Hh.out.kept Hu2.out ?_ ?_).kept hu25 ?_ ?_
    · rintro (h | h); exact d1 h; exact d6 _ h rfl
    · intro k hk; rintro (h | h); exact d5 _ hk h; exact d2 _ hk h
    · rintro (h | h); exact o1.1 h.symm; exact o3 h
    · intro k hk; rintro (h | h); exact o1.2 (h ▸ hk); exact (d4 _ h).1 hk
  · refine Hp2.out.kept hu25 ?_ ?_ ?_
    · rintro (h | h); exact o8 h; exact o9 h
    · rintro (h | h); exact o2.1 h.symm; exact o4 h
    · intro k hk; rintro (h | h)
      · rcases hg' _ hk with h1 | h1
        · exact o2.2 (h ▸ h1)
        · have := lt_heap Hrow.out; omega
      · rcases hg' _ hk with h1 | h1
        · exact (d4 _ h).2 h1
        · have := l4 _ h; omega
  · refine (Hob.out.kept Hu2.out ?_).kept hu25 ?_
    · intro k hk; rintro (h | h); exact o5 (h ▸ hk); exact (d3 _ hk).2.1 h
    · intro k hk; rintro (h | h); exact o6 (h ▸ hk); exact (d3 _ hk).2.2 h
  · rw [hll, bytes_append]
    exact Hown4.out.kept hu5 (fun k hk h => h4s (h ▸ hk))
  · intro k hk h
    rcases hg' _ h with h1 | h1
    · exact d2 _ hk h1
    · have := l1.2 _ hk; omega
  · intro k hk
    refine ⟨(d3 _ hk).1, fun h => ?_, fun h => ?_⟩
    · rcases hg' _ h with h1 | h1
      · exact (d3 _ hk).2.1 h1
      · have := l3 _ hk; omega
    · rw [hll] at h
      rcases h4' _ h with h1 | h1
      · exact (d3 _ hk).2.2 h1
      · have := l3 _ hk; omega
  · intro k hk
    rw [hll] at hk
    refine ⟨fun h => ?_, fun h => ?_⟩
    · rcases h4' _ hk with h1 | h1
      · exact (d4 _ h1).1 h
      · have := l1.2 _ h; omega
    · rcases h4' _ hk with h1 | h1
      · rcases hg' _ h with h2 | h2
        · exact (d4 _ h1).2 h2
        · have := l4 _ h1; omega
      · have := l5.2 _ h; omega
  · intro k hk h
    rcases hg' _ hk with h1 | h1
    · exact d6 _ h1 h
    · have := l1.1; omega
  · rw [hll]
    rintro k (h | h | h | h | h | h | h | h)
    · exact .inl (HF.out _ (by simp [h]))
    · exact .inl (HF.out _ (by simp [h]))
    · exact .inl (HF.out _ (by simp [h]))
    · exact .inl (HF.out _ (by simp [h]))
    · exact .inl (HF.out _ (by simp [h]))
    · exact .inr (.inl h)
    · exact .inl (HF.out _ (by simp [h]))
    · exact .inr (.inr h)
  · have z1 := hu5.size
    have z2 := Hu4.out.size
    rintro k (h | h | h)
    · have := Hlt.out _ h; omega
    · have := l5.2 _ h; omega
    · have := Hown4.out.lt h; omega
  · rintro k (h | h | h)
    · exact .inl h
    · exact (hg' _ h).imp (fun h => HF.out _ (by simp [h])) id
    · exact (h4' _ h).imp (fun h => HF.out _ (by simp [h])) (fun h => by omega)
  · refine (Hu2.out.mono ?_).then hu25 ?_
    · rintro k _ (h | h); exact HF.out _ (by simp [h]); exact HF.out _ (by simp [h])
    · rintro k _ (h | h); exact HF.out _ (by simp [h]); exact HF.out _ (by simp [h])
end Go.Proofs.YtefobboakikpbaaDoor
