/- Lists of nodes that lie apart; the law's spoil. -/
import Derived.Test.YthnbinlllmkabaaCopy
import Derived.Test.YthnbinlllmkabaaOwn
import Derived.Test.YthnbinlllmkabaaBuild
import Derived.Deep.MidRow
namespace Go.Proofs.Ythnbinlllmkabaa
open Go.RowKit
set_option linter.unusedVariables false
set_option linter.unusedSimpArgs false

/-- Children whose blocks nothing else has. -/
def KidsSep (w : World) : Nat → (Nat → Prop) → Option Addr → List Nd → Prop
  | 0, _, _, ks => ks = []
  | d + 1, F, a, ks => ks = [] ∨ ∃ (g off : Nat) (al : List (Option Addr × Nat)) (Fs : Nat → Nat → Prop), a = some ⟨g, off, none⟩ ∧ F g ∧ ks.length = al.length ∧ (∃ cur, w.heap[g]? = some (.cells cur 30 (0, 0))) ∧
      (∀ j x a' c', ks[j]? = some x → al[j]? = some (a', c') → w.rangeAt g (off + j * 41) (x.row a' c') ∧ x.v.wf ∧ x.kids.length ≤ 9223372036854775807 ∧ KidsSep w d (Fs j) a' x.kids ∧ mwf x.m ∧ x.name.size ≤ 9223372036854775807) ∧
      (∀ j b, Fs j b → F b ∧ b ≠ g) ∧ (∀ i j b, i ≠ j → Fs i b → ¬ Fs j b)
theorem KidsSep.kept {S : Nat → Prop} {w w' : World} (hu : Upd S w w') : ∀ (d : Nat) (F : Nat → Prop) (a : Option Addr) (ks : List Nd), (∀ b, F b → ¬ S b) → KidsSep w d F a ks → KidsSep w' d F a ks
  | 0, _, _, _, _, h => h
  | d + 1, F, a, ks, hS, h => by
    rcases h with h | ⟨g, off, al, Fs, h1, h2, h3, ⟨cur, h4⟩, h5, h6, h7⟩
    · exact .inl h
    · refine .inr ⟨g, off, al, Fs, h1, h2, h3, ⟨cur, hu.at_ h4 (hS g h2)⟩, fun j x a' c' hj ha => ?_, h6, h7⟩
      obtain ⟨k1, k2, k3, k4, k5⟩ := h5 j x a' c' hj ha
      exact ⟨rangeAt_kept k1 hu (hS g h2), k2, k3, KidsSep.kept hu d (Fs j) a' x.kids (fun b hb => hS b (h6 j b hb).1) k4, k5⟩
theorem KidsSep.mono {w : World} : ∀ (d : Nat) (F G : Nat → Prop) (a : Option Addr) (ks : List Nd), (∀ b, F b → G b) → KidsSep w d F a ks → KidsSep w d G a ks
  | 0, _, _, _, _, _, h => h
  | d + 1, F, G, a, ks, hG, h => by
    rcases h with h | ⟨g, off, al, Fs, h1, h2, h3, h4, h5, h6, h7⟩
    · exact .inl h
    · exact .inr ⟨g, off, al, Fs, h1, hG g h2, h3, h4, h5, fun j b hb => ⟨hG b (h6 j b hb).1, (h6 j b hb).2⟩, h7⟩
theorem KidsSep.kids {w : World} : ∀ (d : Nat) (F : Nat → Prop) (a : Option Addr) (ks : List Nd), KidsSep w d F a ks → KidsIn w F d a ks
  | 0, _, _, _, h => h
  | d + 1, F, a, ks, h => by
    rcases h with h | ⟨g, off, al, Fs, h1, h2, h3, h4, h5, h6, h7⟩
    · subst h
      intro i x hx
      simp at hx
    · intro i x hx
      have hil : i < al.length := by rw [← h3]; exact (List.getElem?_eq_some_iff.1 hx).1
      obtain ⟨k1, k2, k3, k4, k5, k6⟩ := h5 i x al[i].1 al[i].2 hx (List.getElem?_eq_getElem hil)
      exact ⟨g, off, al[i].1, al[i].2, h1, h2, k1, k2, k5, k6, k3, KidsIn.mono (fun b hb _ => (h6 i b hb).1) d _ _ (KidsSep.kids d (Fs i) al[i].1 x.kids k4)⟩
theorem Upd.setCells {S : Nat → Prop} {a : World} (b : Nat) (hb : S b) : ∀ (vs : List Value) (o : Nat) (w : World), Upd S a w → Upd S a (w.setCells b o vs)
  | [], _, _, h => h
  | v :: r, o, w, h => by
    rw [World.setCells]
    exact Upd.setCells b hb r (o + 1) _ (h.setCell _ _ (fun _ => hb))
theorem row_setCells (g : Nat) (t : TypeId) : ∀ (vs : List Value) (o : Nat) (w : World), (∃ cur, w.heap[g]? = some (.cells cur t (0, 0))) → ∃ cur, (w.setCells g o vs).heap[g]? = some (.cells cur t (0, 0))
  | [], _, _, h => h
  | v :: r, o, w, ⟨cur, h⟩ => by
    rw [World.setCells]
    exact row_setCells g t r (o + 1) _ ⟨_, heap_setCell_same w g o _ _ v h⟩
theorem there_row {w : World} {g o : Nat} {t : TypeId} {vs : List Value} (hr : ∃ cur, w.heap[g]? = some (.cells cur t (0, 0))) (h : w.rangeAt g o vs) : w.there g o vs.length := by
  obtain ⟨cur, hc⟩ := hr
  intro j hj
  exact ⟨by rw [h j _ (List.getElem?_eq_getElem hj)]; rfl, frozen_of_row w g (o + j) _ _ hc⟩
/-- What spoil leaves of a node. -/
def bang : Nd := .mk ⟨#[33]⟩ ⟨77, 0, 0, zeros⟩ noMk []
theorem bang_wf : bang.v.wf := by exact ⟨rfl, (by show i64 (77 : Int); unfold i64; omega), (by show i64 (0 : Int); unfold i64; omega), (by show i64 (0 : Int); unfold i64; omega)⟩
theorem bang_mwf : mwf bang.m := by
  have h : i64 (0 : Int) := by unfold i64; omega
  exact ⟨h, h, h, h⟩
theorem bang_len : (bang.row none 0).length = 41 := row_len bang_wf
/-- Spoiled so far: k nodes. -/
structure SpoilSt (F : Nat → Prop) (Fs : Nat → Nat → Prop) (w wr : World) (d g off k : Nat) (ks : List Nd) (al : List (Option Addr × Nat)) : Prop where
  upd : Upd F w wr
  row : ∃ cur, wr.heap[g]? = some (.cells cur 30 (0, 0))
  gone : ∀ j, j < k → wr.rangeAt g (off + j * 41) (bang.row none 0)
  todo : ∀ j x a' c', k ≤ j → ks[j]? = some x → al[j]? = some (a', c') → wr.rangeAt g (off + j * 41) (x.row a' c') ∧ x.v.wf ∧ x.kids.length ≤ 9223372036854775807 ∧ KidsSep wr d (Fs j) a' x.kids
theorem SpoilSt.next {F : Nat → Prop} {Fs : Nat → Nat → Prop} {w wr w5 : World} {d g off k : Nat} {ks : List Nd} {al : List (Option Addr × Nat)} (h : SpoilSt F Fs w wr d g off k ks al) (hl : ks.length = al.length) (hk : k < ks.length) (hF : F g)
    (hFs : ∀ j b, Fs j b → F b ∧ b ≠ g) (hap : ∀ i j b, i ≠ j → Fs i b → ¬ Fs j b) (h5 : Upd (Fs k) wr w5) :
    w5.there g (off + k * 41) 41 ∧ SpoilSt F Fs w (w5.setCells g (off + k * 41) (bang.row none 0)) d g off (k + 1) ks al := by
  have hg : ¬ Fs k g := fun e => (hFs k g e).2 rfl
  have hrow5 : ∃ cur, w5.heap[g]? = some (.cells cur 30 (0, 0)) := by
    obtain ⟨cur, hc⟩ := h.row
    exact ⟨cur, h5.at_ hc hg⟩
  have hak : k < al.length := by rw [← hl]; exact hk
  obtain ⟨k1, k2, _, _⟩ := h.todo k ks[k] al[k].1 al[k].2 (Nat.le_refl _) (List.getElem?_eq_getElem hk) (List.getElem?_eq_getElem hak)
  have ht : w5.there g (off + k * 41) 41 := by
    have := there_row hrow5 (rangeAt_kept k1 h5 hg)
    rwa [row_len k2] at this
  have hz : Upd (fun b => b = g) w5 (w5.setCells g (off + k * 41) (bang.row none 0)) := Upd.setCells (S := fun b => b = g) g rfl _ _ _ (Upd.refl _ _)
  refine ⟨ht, ⟨?_, row_setCells g _ _ _ _ hrow5, fun j hj => ?_, fun j x a' c' hj hx ha => ?_⟩⟩
  · exact Upd.setCells g hF _ _ _ (h.upd.then h5 (fun i _ hi => (hFs k i hi).1))
  · by_cases hjk : j = k
    · subst hjk
      exact World.rangeAt_setCells_same _ _ _ _ (by rw [bang_len]; exact ht)
    · refine World.rangeAt_setCells_apart (rangeAt_kept (h.gone j (by omega)) h5 hg) _ _ _ (.inr (.inl ?_))
      rw [bang_len]; omega
  · obtain ⟨q1, q2, q3, q4⟩ := h.todo j x a' c' (by omega) hx ha
    refine ⟨World.rangeAt_setCells_apart (rangeAt_kept q1 h5 hg) _ _ _ (.inr (.inr ?_)), q2, q3, ?_⟩
    · rw [bang_len]; omega
    · exact KidsSep.kept hz d (Fs j) a' x.kids (fun b hb e => (hFs j b hb).2 e) (KidsSep.kept h5 d (Fs j) a' x.kids (fun b hb => hap j k b (by omega) hb) q4)
theorem SpoilSt.kids {F : Nat → Prop} {Fs : Nat → Nat → Prop} {w wr : World} {d g off : Nat} {ks : List Nd} {al : List (Option Addr × Nat)} (h : SpoilSt F Fs w wr d g off ks.length ks al) (hF : F g) : KidsIn wr F 1 (some ⟨g, off, none⟩) (ks.map fun _ => bang) := by
  intro i x hi
  rw [List.getElem?_map] at hi
  cases hk : ks[i]? with
  | none => rw [hk] at hi; simp at hi
  | some y =>
    rw [hk] at hi
    simp at hi
    subst hi
    have hik := (List.getElem?_eq_some_iff.1 hk).1
    exact ⟨g, off, none, 0, rfl, hF, h.gone i hik, bang_wf, bang_mwf, by decide, by decide, rfl⟩
theorem build77 (w : World) : (Instr.build 24 #[(0, .int .i64 77)]).run Try.prog w = .ok (.agg bang.v.cells.toArray) w := by kernel_rfl
theorem buildBang (w : World) : (Instr.build 30 #[(0, .string ⟨#[33]⟩), (1, .agg bang.v.cells.toArray)]).run Try.prog w = .ok (.agg (bang.row none 0).toArray) w := by kernel_rfl
set_option maxHeartbeats 1000000 in
set_option maxRecDepth 100000 in
theorem spoil_step (d : Nat) (ih : ∀ e, d = e + 1 → ∀ (F : Nat → Prop) (w : World) (ks : List Nd) (m : Nat) (a : Option Addr) (c : Nat), KidsSep w e F a ks → ks.length = m → m ≤ 9223372036854775807 →
      Calls Try.prog 17 #[.slice a m c] w fun e' w' => e' = .returned (.tuple #[]) ∧ Upd F w w' ∧ KidsIn w' F 1 a (ks.map fun _ => bang))
    (F : Nat → Prop) (w : World) (ks : List Nd) (m : Nat) (a : Option Addr) (c : Nat) (hs : KidsSep w d F a ks) (hm : ks.length = m) (hm2 : m ≤ 9223372036854775807) :
    Calls Try.prog 17 #[.slice a m c] w fun e' w' => e' = .returned (.tuple #[]) ∧ Upd F w w' ∧ KidsIn w' F 1 a (ks.map fun _ => bang) := by
  have Hm := Lib.hid hm
  have Ih := Lib.hid ih
  clear ih
  by_cases h0 : ks = []
  · subst h0
    have hm0 : m = 0 := by rw [← Hm.out]; rfl
    subst hm0
    clear hs hm
    go_enter Try.func17, Try.ntmps17
    go_wp2_with fail
    go_loopw [2] (fun i wr => i = .int .i64 0 ∧ Upd F w wr) (fun _ _ => 0)
    case atStart => exact ⟨rfl, Upd.refl _ _⟩
    case round =>
      obtain ⟨rfl, hu⟩ := hrel
      have Hu := Lib.hid hu
      clear hu
      go_wp2
      go_end0
      exact ⟨rfl, Hu.out, fun i x hi => by simp at hi⟩
  · cases d with
    | zero => exact absurd hs h0
    | succ d =>
    rcases hs with hs | ⟨g, off, al, Fs, rfl, hF, hl, hrow, htodo, hFs, hap⟩
    · exact absurd hs h0
    have HFs := Lib.hid hFs
    have Hap := Lib.hid hap
    have Hl := Lib.hid hl
    have Hst := Lib.hid (show SpoilSt F Fs w w d g off 0 ks al from ⟨Upd.refl _ _, hrow, fun j hj => by omega, fun j x a' c' _ hx ha => (fun h => ⟨h.1, h.2.1, h.2.2.1, h.2.2.2.1⟩) (htodo j x a' c' hx ha)⟩)
    clear hFs hap hl hrow htodo hm h0
    go_enter Try.func17, Try.ntmps17
    go_wp2_with fail
    go_loopw [2] (fun i wr => ∃ k : Nat, k ≤ m ∧ i = .int .i64 k ∧ SpoilSt F Fs w wr d g off k ks al) (fun i _ => m - (intOf i).toNat)
    case atStart => exact ⟨0, Nat.zero_le _, rfl, Hst.out⟩
    case round =>
      obtain ⟨k, hk, rfl, hst⟩ := hrel
      have HSt := Lib.hid hst
      clear hst Hst
      by_cases hlt : k < m
      · have hk1 : k < ks.length := by rw [Hm.out]; exact hlt
        have hk2 : k < al.length := by rw [← Hl.out]; exact hk1
        obtain ⟨x, hx⟩ : ∃ x, ks[k]? = some x := ⟨_, List.getElem?_eq_getElem hk1⟩
        obtain ⟨⟨a', c'⟩, ha⟩ : ∃ y, al[k]? = some y := ⟨_, List.getElem?_eq_getElem hk2⟩
        obtain ⟨q1, q2, q3, q4⟩ := HSt.out.todo k x a' c' (Nat.le_refl _) hx ha
        obtain ⟨zn, zv, zm, f40⟩ := nrow_at q2 q1
        have Q4 := Lib.hid q4
        have Hk1 := Lib.hid hk1
        have i1 : (0 : Int) ≤ (k : Int) := by omega
        have i2 : (k : Int) < (m : Int) := by omega
        obtain ⟨V, hV⟩ : ∃ V, V = bang.v.cells.toArray := ⟨_, rfl⟩
        obtain ⟨C, hC⟩ : ∃ C, C = (bang.row none 0).toArray := ⟨_, rfl⟩
        have Hb1 := Lib.hid (show ∀ w, (Instr.build 24 #[(0, .int .i64 77)]).run Try.prog w = .ok (.agg V) w from fun w => by rw [hV]; exact build77 w)
        have Hb2 := Lib.hid (show ∀ w, (Instr.build 30 #[(0, .string ⟨#[33]⟩), (1, .agg V)]).run Try.prog w = .ok (.agg C) w from fun w => by rw [hV, hC]; exact buildBang w)
        have hb41 := Lib.hid (show C.size = 41 by rw [hC, List.size_toArray]; exact bang_len)
        have Hone := Lib.hid (show C.all (·.oneCell') = true by rw [hC]; exact all_one (nrow_one _ _ _ _ _ _))
        have HC := Lib.hid (show C.toList = bang.row none 0 by rw [hC])
        clear hV hC
        obtain ⟨kl, hkl⟩ : ∃ kl, kl = x.kids.length := ⟨_, rfl⟩
        rw [← hkl] at f40 q3
        have Hkl := Lib.hid hkl
        clear zn zv zm q1 q2 q4 hkl hk2 hx ha hk1
        go_wp2_with fail
        refine (Ih.out d rfl (Fs k) wr x.kids kl a' c' Q4.out Hkl.out.symm q3).mono ?_
        rintro e w5 ⟨rfl, hu5, _⟩
        obtain ⟨ht, hnx⟩ := HSt.out.next Hl.out Hk1.out hF HFs.out Hap.out hu5
        have Ht := Lib.hid ht
        rw [← HC.out] at hnx
        have Hnx := Lib.hid hnx
        clear f40 hu5 ht hnx
        go_wp2_with (first | (refine wpList_build_eq (by rfl) 24 #[(0, .const (.int .i64 77))] rfl #[(0, .int .i64 77)] (by kernel_rfl) (.agg V) (Hb1.out _) ?_) | (refine wpList_build_eq (by rfl) 30 #[(0, .const (.string ⟨#[33]⟩)), (1, .tmp 17)] rfl #[(0, .string ⟨#[33]⟩), (1, .agg V)] (by kernel_rfl) (.agg C) (Hb2.out _) ?_) | (refine wpList_store_mid rfl 30 (.tmp 19) (.tmp 18) rfl g (off + k * 41) C rfl rfl (by rw [hb41.out]; exact Ht.out) (by rw [hb41.out]; kernel_rfl) Hone.out ?_))
        go_roundw
        case rel => exact ⟨k + 1, hlt, by go_num, Hnx.out⟩
        case measure => simp [intOf]; omega
      · obtain rfl : k = m := by omega
        clear hlt
        go_wp2
        go_end0
        have h := HSt.out
        rw [← Hm.out] at h
        exact ⟨rfl, h.upd, h.kids hF⟩
theorem spoil_ok : ∀ (d : Nat) (F : Nat → Prop) (w : World) (ks : List Nd) (m : Nat) (a : Option Addr) (c : Nat), KidsSep w d F a ks → ks.length = m → m ≤ 9223372036854775807 →
      Calls Try.prog 17 #[.slice a m c] w fun e' w' => e' = .returned (.tuple #[]) ∧ Upd F w w' ∧ KidsIn w' F 1 a (ks.map fun _ => bang)
  | 0, F, w, ks, m, a, c, hs, hm, hm2 => spoil_step 0 (fun e he => by omega) F w ks m a c hs hm hm2
  | d + 1, F, w, ks, m, a, c, hs, hm, hm2 => spoil_step (d + 1) (fun e he => by
      obtain rfl : d = e := Nat.succ.inj he
      exact spoil_ok d) F w ks m a c hs hm hm2
end Go.Proofs.Ythnbinlllmkabaa
