/- Maps that a call makes, told value by value: what stands at each key. Nothing of the program stands here. -/
import Derived.Test.YtefobboakikpbaaBase
import Derived.Maps.OwnOps
namespace Go.Proofs.Ytefobboakikpbaa
open Go.RowKit Go.Maps
set_option linter.unusedVariables false
set_option linter.unusedSimpArgs false

/-- Block b is a map of at most n entries; at the key x stands g x. -/
def MapAt (w : World) (P : Program) (k : TypeId) (b n : Nat) (g : Value → Option Value) : Prop :=
  ∃ es clock, w.heap[b]? = some (.map es clock) ∧ MapKept.Stamped es clock ∧ es.size ≤ n ∧ (∀ x ∈ es.toList, ∃ l, keyOf P k x.key = some l) ∧
    ∀ x v, g x = some v ↔ ∃ e ∈ es.toList, e.key = x ∧ e.val = v

open Classical in
noncomputable def putAt (g : Value → Option Value) (key val : Value) : Value → Option Value := fun x => if x = key then some val else g x
theorem putAt_same (g : Value → Option Value) (key val : Value) : putAt g key val key = some val := by simp [putAt]
theorem putAt_other {g : Value → Option Value} {key val x : Value} (h : x ≠ key) : putAt g key val x = g x := by simp [putAt, h]

variable {P : Program} {w : World} {k t e : TypeId} {b n : Nat} {g : Value → Option Value}

theorem MapAt.made (w : World) (P : Program) (k : TypeId) : MapAt (w.alloc (.map #[] 0)) P k w.heap.size 0 (fun _ => none) :=
  ⟨#[], 0, (MapKept.heap_alloc w _).1, MapKept.stamped_empty 0, by simp, by simp, by simp⟩
theorem MapAt.lt (h : MapAt w P k b n g) : b < w.heap.size := by
  obtain ⟨es, clock, hb, _⟩ := h
  exact lt_heap hb
theorem MapAt.mono (h : MapAt w P k b n g) {n' : Nat} (hn : n ≤ n') : MapAt w P k b n' g := by
  obtain ⟨es, clock, hb, hs, hl, r⟩ := h
  exact ⟨es, clock, hb, hs, Nat.le_trans hl hn, r⟩
theorem MapAt.kept {S : Nat → Prop} {w' : World} (h : MapAt w P k b n g) (hu : Upd S w w') (hn : ¬ S b) : MapAt w' P k b n g := by
  obtain ⟨es, clock, hb, r⟩ := h
  exact ⟨es, clock, hu.at_ hb hn, r⟩
theorem MapAt.below {w' : World} (h : MapAt w P k b n g) (hb : Below w.heap.size w w') : MapAt w' P k b n g :=
  h.kept (Upd.below hb fun _ => False) id
/-- A map lies apart from every row. -/
theorem MapAt.apart (h : MapAt w P k b n g) {e' : TypeId} {size m : Nat} {v : Value} {xs : List Value} (ho : Own w e' size v m xs) : v.ownBlock ≠ some b := by
  obtain ⟨es, clock, hb, _⟩ := h
  rcases ho.2.2 with ⟨rfl, _⟩ | ⟨g, off, cap, cur, rfl, hg, _⟩
  · simp [Value.ownBlock]
  · intro hk
    have : g = b := by simpa [Value.ownBlock] using hk
    subst this
    rw [hg] at hb
    cases hb

theorem MapAt.look (h : MapAt w P k b n g) (K : Keyed P k) (ht : P.underlying t = some (.map k e)) {z : Value} (hz : (zeroValue e).run P w = .ok z w) {key : Value} {kl : Lit} (hkey : keyOf P k key = some kl) :
    (Instr.lookup t (.map (some b)) key false).run P w = .ok ((g key).getD z) w := by
  obtain ⟨es, clock, hb, hs, hn, hk, hg⟩ := h
  rcases K.find w hkey es.toList hk with ⟨h1, h2⟩ | ⟨j, e0, h1, h2, h3⟩
  · have hno : g key = none := by
      cases hq : g key with
      | none => rfl
      | some v => obtain ⟨e, he, hk', _⟩ := (hg key v).1 hq; exact absurd hk' (h2 e he)
    simp [Instr.lookup, run_underlying ht, MapKept.run_getObj_map hb, K.check w _ hkey, h1, hz, Result.andThen, hno]
  · have hyes : g key = some e0.val := (hg key e0.val).2 ⟨e0, List.mem_of_getElem? h2, h3, rfl⟩
    simp [Instr.lookup, run_underlying ht, MapKept.run_getObj_map hb, K.check w _ hkey, h1, Result.andThen, hyes]

theorem upd_setBlock {w : World} {b : Nat} {es : Array MapEntry} {clock : Nat} (hb : w.heap[b]? = some (.map es clock)) (o' : Obj) : Upd (· = b) w (ChangeMaps.setBlock w b o') :=
  ⟨rfl, rfl, rfl, by simp [ChangeMaps.setBlock], fun i _ hi => ChangeMaps.heap_setBlock_other hb _ hi⟩

theorem MapAt.store (h : MapAt w P k b n g) (K : Keyed P k) (ht : P.underlying t = some (.map k e)) {key : Value} {kl : Lit} (hkey : keyOf P k key = some kl) (val : Value) :
    ∃ w', (Instr.mapUpdate t (.map (some b)) key val).run P w = .ok () w' ∧ MapAt w' P k b (n + 1) (putAt g key val) ∧ Upd (· = b) w w' := by
  obtain ⟨es, clock, hb, hs, hn, hk, hg⟩ := h
  have hap : es.toList.Pairwise (fun x y => x.key ≠ y.key) := ((MapKept.stamped_iff es clock).1 hs).2.2
  rcases K.find w hkey es.toList hk with ⟨h1, h2⟩ | ⟨j, e0, h1, h2, h3⟩
  · refine ⟨ChangeMaps.setBlock w b (.map (es.push ⟨key, val, clock⟩) (clock + 1)), ?_, ⟨es.push ⟨key, val, clock⟩, clock + 1, ChangeMaps.heap_setBlock_same hb _, MapKept.stamped_push hs h2, by simp; omega, ?_, ?_⟩, upd_setBlock hb _⟩
    · simp [Instr.mapUpdate, run_underlying ht, MapKept.run_getObj_map hb, K.check w false hkey, h1, MapKept.run_setObj_map _ hb, Result.andThen, ChangeMaps.setBlock]
    · intro x hx
      simp only [Array.toList_push, List.mem_append, List.mem_singleton] at hx
      rcases hx with hx | rfl
      · exact hk x hx
      · exact ⟨kl, hkey⟩
    · intro x v
      simp only [Array.toList_push, List.mem_append, List.mem_singleton]
      by_cases hx : x = key
      · subst hx
        rw [putAt_same]
        constructor
        · intro hv
          injection hv with hv
          exact ⟨_, .inr rfl, rfl, hv⟩
        · rintro ⟨e, he | rfl, h4, h5⟩
          · exact absurd h4 (h2 e he)
          · exact congrArg some h5
      · rw [putAt_other hx, hg]
        constructor
        · rintro ⟨e, he, h4⟩
          exact ⟨e, .inl he, h4⟩
        · rintro ⟨e, he | rfl, h4, h5⟩
          · exact ⟨e, he, h4, h5⟩
          · exact absurd h4.symm hx
  · have hj : es[j]? = some e0 := by simpa using h2
    have hjl : j < es.toList.length := (List.getElem?_eq_some_iff.1 h2).1
    have hkeyf : ∀ e', es[j]? = some e' → ({ e' with key := key, val := val } : MapEntry).key = e'.key := fun e' he' => by rw [hj] at he'; cases he'; exact h3.symm
    have hlist : (es.modify j (fun e' => { e' with key := key, val := val })).toList = es.toList.set j { e0 with key := key, val := val } := by rw [Array.toList_modify, ChangeMaps.modify_eq_set _ _ _ _ h2]
    have who : ∀ x, x ∈ es.toList.set j { e0 with key := key, val := val } ↔ x = { e0 with key := key, val := val } ∨ (x ∈ es.toList ∧ x.key ≠ key) := by
      intro x
      have hother : ∀ i (hi : i < es.toList.length), i ≠ j → (es.toList[i]).key ≠ key := by
        intro i hi hne he
        have hje : es.toList[j] = e0 := by
          have := h2
          rw [List.getElem?_eq_getElem hjl] at this
          exact Option.some.inj this
        rcases Nat.lt_or_gt_of_ne hne with hlt | hlt
        · exact List.pairwise_iff_getElem.1 hap i j hi hjl hlt (by rw [he, hje, h3])
        · exact List.pairwise_iff_getElem.1 hap j i hjl hi hlt (by rw [he, hje, h3])
      constructor
      · intro hx
        obtain ⟨i, hi, ex⟩ := List.getElem_of_mem hx
        rw [List.getElem_set] at ex
        split at ex
        · exact Or.inl ex.symm
        · rename_i hne
          have hi' : i < es.toList.length := by simpa using hi
          exact Or.inr ⟨ex ▸ List.getElem_mem hi', by rw [← ex]; exact hother i hi' (fun e1 => hne e1.symm)⟩
      · rintro (rfl | ⟨hx, hne⟩)
        · exact List.mem_iff_getElem.2 ⟨j, by simpa using hjl, by simp⟩
        · obtain ⟨i, hi, ex⟩ := List.getElem_of_mem hx
          have hij : j ≠ i := by
            rintro rfl
            have hje : es.toList[j] = e0 := by
              have := h2
              rw [List.getElem?_eq_getElem hjl] at this
              exact Option.some.inj this
            exact hne (by rw [← ex, hje, h3])
          exact List.mem_iff_getElem.2 ⟨i, by simpa using hi, by rw [List.getElem_set, if_neg hij]; exact ex⟩
    refine ⟨ChangeMaps.setBlock w b (.map (es.modify j (fun e' => { e' with key := key, val := val })) clock), ?_, ⟨es.modify j (fun e' => { e' with key := key, val := val }), clock, ChangeMaps.heap_setBlock_same hb _, MapKept.stamped_modify hs _ _ (fun _ _ => rfl) (fun e' _ he' => hkeyf e' he'), by simp; omega, ?_, ?_⟩, upd_setBlock hb _⟩
    · simp [Instr.mapUpdate, run_underlying ht, MapKept.run_getObj_map hb, K.check w false hkey, h1, hj, h3, K.stays w hkey, MapKept.run_setObj_map _ hb, Result.andThen, ChangeMaps.setBlock]
    · intro x hx
      rw [hlist, who] at hx
      rcases hx with rfl | ⟨hx', _⟩
      · exact ⟨kl, hkey⟩
      · exact hk x hx'
    · intro x v
      rw [hlist]
      by_cases hx : x = key
      · subst hx
        rw [putAt_same]
        constructor
        · intro hv
          injection hv with hv
          exact ⟨_, (who _).2 (.inl rfl), rfl, hv⟩
        · rintro ⟨e, he, h4, h5⟩
          rcases (who _).1 he with rfl | ⟨_, hne⟩
          · exact congrArg some h5
          · exact absurd h4 hne
      · rw [putAt_other hx, hg]
        constructor
        · rintro ⟨e, he, h4, h5⟩
          exact ⟨e, (who _).2 (.inr ⟨he, by rw [h4]; exact hx⟩), h4, h5⟩
        · rintro ⟨e, he, h4, h5⟩
          rcases (who _).1 he with rfl | ⟨he', _⟩
          · exact absurd h4.symm hx
          · exact ⟨e, he', h4, h5⟩

/-- m[k] at the operation. -/
theorem wpList_lookup_at {ops : Array Oper} {rest : List Oper} {o : Oper} {a : Act} {Q : Exit → Act → World → Prop} (hgd : o.guard = none) (m x : Operand) (t : TypeId) (hop : o.op = Op.lookup t m x false)
    (k e : TypeId) (K : Keyed P k) (ht : P.underlying t = some (.map k e)) (z : Value) (hz : (zeroValue e).run P w = .ok z w) (b n : Nat) (g : Value → Option Value)
    (hm : a.eval m = .map (some b)) (h : MapAt w P k b n g) (key : Value) (kl : Lit) (hx : a.eval x = key) (hkey : keyOf P k key = some kl)
    (hK : wpList P ops Q rest (a.put o.dst ((g key).getD z)) w) : wpList P ops Q (o :: rest) a w := by
  refine wpList_plain hgd fun K' hK' => ?_
  have hrun := h.look K ht hz hkey
  unfold Oper.wp
  simp [execOp, hop, hm, hx, hrun, Result.andThen]
  exact hK' _ _ hK

/-- m[k] = v at the operation. -/
theorem wpList_mapUpdate_at {ops : Array Oper} {rest : List Oper} {o : Oper} {a : Act} {Q : Exit → Act → World → Prop} (hgd : o.guard = none) (m x v : Operand) (t : TypeId) (hop : o.op = Op.mapUpdate t m x v)
    (k e : TypeId) (K : Keyed P k) (ht : P.underlying t = some (.map k e)) (b n : Nat) (g : Value → Option Value)
    (hm : a.eval m = .map (some b)) (h : MapAt w P k b n g) (key val : Value) (kl : Lit) (hx : a.eval x = key) (hv : a.eval v = val) (hkey : keyOf P k key = some kl)
    (hK : ∀ w', MapAt w' P k b (n + 1) (putAt g key val) → Upd (· = b) w w' → wpList P ops Q rest (a.put o.dst undef) w') : wpList P ops Q (o :: rest) a w := by
  refine wpList_plain hgd fun K' hK' => ?_
  obtain ⟨w', hrun, r1, r2⟩ := h.store K ht hkey val
  unfold Oper.wp
  simp [execOp, hop, hm, hx, hv, hrun, Result.andThen]
  exact hK' _ _ (hK w' r1 r2)
end Go.Proofs.Ytefobboakikpbaa
