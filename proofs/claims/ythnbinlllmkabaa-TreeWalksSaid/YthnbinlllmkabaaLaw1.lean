/- What the law TreeChecks stands on: alike of a tree that was made, and what lies between its steps. -/
import Derived.Test.YthnbinlllmkabaaNode
import Derived.Test.YthnbinlllmkabaaHoldN
import Derived.Test.YthnbinlllmkabaaAlike
import Derived.Test.YthnbinlllmkabaaBang
import Derived.Test.YthnbinlllmkabaaChk2
import Derived.Test.YthnbinlllmkabaaRefC
namespace Go.Proofs.Ythnbinlllmkabaa
open Go.RowKit
set_option linter.unusedVariables false
set_option linter.unusedSimpArgs false

theorem treeNode_ok (F : Nat → Prop) (d : Nat) (w : World) (p : Nat) (n : Nd) (ht : TreeAt w F d p n) (hpt : n.parts ≤ 1000000) :
    Calls Try.prog 46 #[.pointer (some ⟨p, 0, none⟩)] w fun e w3 => ∃ (a' : Option Addr) (c' : Nat), e = .returned (.agg ((n.named ⟨#[]⟩).row a' c').toArray) ∧ NodeIn w3 (fun b => w.heap.size ≤ b) d (n.named ⟨#[]⟩) a' ∧ Below w.heap.size w w3 :=
  treeNode_of d w ⟨p, 0, none⟩ (n.named ⟨#[]⟩) (fun w2 hb => node_ok d (fun b => b < w2.heap.size) w2 p n ⟨#[]⟩ (TreeAt.mono (fun b _ hl => hl) d p n (ht.below hb)) (fun b hb => hb) hpt (by decide))
theorem alike_true (F FT : Nat → Prop) (d dt : Nat) (w : World) (p : Nat) (n : Nd) (a : Option Addr) (c : Nat) (hn : NodeIn w F d n a) (hF : ∀ b, F b → b < w.heap.size) (ht : TreeAt w FT dt p n) (hpt : n.parts ≤ 1000000) :
    Calls Try.prog 14 #[.pointer (some ⟨p, 0, none⟩), .agg (n.row a c).toArray] w fun e w' => e = .returned (.bool true) ∧ Below w.heap.size w w' := by
  refine (alike_of F (fun _ => True) d dt w ⟨p, 0, none⟩ (n.named ⟨#[]⟩) n a c hn hF hpt (fun w' hb => ?_)).mono ?_
  · refine (treeNode_ok FT dt w' p n (ht.below hb) hpt).mono ?_
    rintro e w3 ⟨a', c', rfl, h1, h2⟩
    exact ⟨a', c', rfl, h1.mono (fun _ _ _ => trivial), h2⟩
  · rintro e w' ⟨rfl, hb⟩
    refine ⟨?_, hb⟩
    have h1 : (decide ((n.named ⟨#[]⟩).name = (n.named ⟨#[]⟩).name) && (n.named ⟨#[]⟩).alike (n.named ⟨#[]⟩)) = true := by
      rw [alike_named]; simp
    rw [h1]
theorem alike_refl (n : Nd) : (decide (n.name = n.name) && n.alike n) = true := by
  have h := alike_self n n.name
  rw [show n.named n.name = n by cases n; rfl] at h
  rw [h]; simp
/-- Between the law's steps. -/
structure ChkSt (w0 w : World) (b1 b4 p d : Nat) (n : Nd) (a a' : Option Addr) (c c' : Nat) : Prop where
  box : w.heap[b1]? = some (.cells (n.row a c).toArray 30 (0, 0))
  inn : w.heap[b4]? = some (.cells (n.row a' c').toArray 30 (0, 0))
  src : NodeIn w (fun b => b < p) d n a
  log : ∃ (ab aa : Option Addr) (cb ca k : Nat) (xb xa : List Value) (X : Nat → Prop), LogN w p p ab aa cb ca k xb xa ∧ Held w X xb xa ∧ k ≤ 4000000
  sep : KidsSep w d (fun b => p < b ∧ b < b4) a' n.kids
  low : Below w0.heap.size w0 w
theorem ChkSt.below {w0 w w' : World} {b1 b4 p d : Nat} {n : Nd} {a a' : Option Addr} {c c' : Nat} (h : ChkSt w0 w b1 b4 p d n a a' c c') (hb : Below w.heap.size w w') : ChkSt w0 w' b1 b4 p d n a a' c c' := by
  have u := Upd.below hb (fun _ => False)
  obtain ⟨ab, aa, cb, ca, k, xb, xa, X, h1, h2, h3⟩ := h.log
  exact ⟨u.at_ h.box id, u.at_ h.inn id, h.src.below hb, ⟨ab, aa, cb, ca, k, xb, xa, X, h1.below hb, h2.below hb, h3⟩, KidsSep.kept u d _ a' _ (fun _ _ => id) h.sep, below_on h.low hb⟩
theorem ChkSt.node {w0 w : World} {b1 b4 p d : Nat} {n : Nd} {a a' : Option Addr} {c c' : Nat} (h : ChkSt w0 w b1 b4 p d n a a' c c') : NodeIn w (fun b => p < b ∧ b < b4) d n a' :=
  ⟨h.src.vwf, h.src.mwf, h.src.nsz, h.src.ksz, KidsSep.kids d _ a' _ h.sep⟩
/-- What a spoiled node is. -/
def Nd.spoiled (n : Nd) : Nd := .mk n.name n.v n.m (n.kids.map fun _ => bang)
theorem spoiled_row (n : Nd) (a : Option Addr) (c : Nat) : n.spoiled.row a c = n.row a c := by
  show nrow n.name n.v n.m (.slice a (n.kids.map fun _ => bang).length c) = _
  rw [List.length_map]
  rfl
theorem spoiled_parts (n : Nd) (h : n.parts ≤ 20000) : n.spoiled.parts ≤ 1000000 := by
  have h1 := parts_eq n.spoiled
  have h2 := parts_eq n
  have h3 := bangs_parts n.kids
  have h4 := partsAll_len n.kids
  have h5 : n.spoiled.name.size = n.name.size := rfl
  have h6 : partsAll n.spoiled.kids = partsAll (n.kids.map fun _ => bang) := rfl
  omega
/-- Between the law's steps, behind spoil. -/
structure SpoSt (w0 w : World) (b1 b4 p d : Nat) (n : Nd) (a a' : Option Addr) (c c' : Nat) : Prop where
  box : w.heap[b1]? = some (.cells (n.row a c).toArray 30 (0, 0))
  inn : w.heap[b4]? = some (.cells (n.spoiled.row a' c').toArray 30 (0, 0))
  src : NodeIn w (fun b => b < p) d n a
  node : NodeIn w (fun b => p < b ∧ b < b4) 1 n.spoiled a'
  low : Below w0.heap.size w0 w
theorem SpoSt.below {w0 w w' : World} {b1 b4 p d : Nat} {n : Nd} {a a' : Option Addr} {c c' : Nat} (h : SpoSt w0 w b1 b4 p d n a a' c c') (hb : Below w.heap.size w w') : SpoSt w0 w' b1 b4 p d n a a' c c' := by
  have u := Upd.below hb (fun _ => False)
  exact ⟨u.at_ h.box id, u.at_ h.inn id, h.src.below hb, h.node.below hb, below_on h.low hb⟩
theorem ChkSt.spoil {w0 w w' : World} {b1 b4 p d : Nat} {n : Nd} {a a' : Option Addr} {c c' : Nat} (h : ChkSt w0 w b1 b4 p d n a a' c c') (hb1 : b1 < p) (hp0 : w0.heap.size ≤ p) (hu : Upd (fun b => p < b ∧ b < b4) w w') (hk : KidsIn w' (fun b => p < b ∧ b < b4) 1 a' (n.kids.map fun _ => bang)) : SpoSt w0 w' b1 b4 p d n a a' c c' :=
  ⟨hu.at_ h.box (by omega), by rw [spoiled_row]; exact hu.at_ h.inn (by omega), h.src.kept hu (fun b hb => by omega), ⟨h.src.vwf, h.src.mwf, h.src.nsz, by show (n.kids.map fun _ => bang).length ≤ _; rw [List.length_map]; exact h.src.ksz, hk⟩, h.low.upd (Nat.le_refl _) hu (fun b hb => by omega)⟩
/-- A tree that Of answered, or none. -/
def VT (w : World) (p b4 : Nat) (n : Nd) (V : Value) : Prop := V = .pointer none ∨ ∃ (q : Nat) (FT : Nat → Prop) (dt : Nat), V = .pointer (some ⟨q, 0, none⟩) ∧ TreeAt w FT dt q n ∧ ∀ b, FT b → ¬ (p < b ∧ b < b4)
theorem VT.kept {S : Nat → Prop} {w w' : World} {p b4 : Nat} {n : Nd} {V : Value} (h : VT w p b4 n V) (hu : Upd S w w') (hS : ∀ b, S b → p < b ∧ b < b4) : VT w' p b4 n V := by
  rcases h with h | ⟨q, FT, dt, h1, h2, h3⟩
  · exact .inl h
  · exact .inr ⟨q, FT, dt, h1, TreeAt.kept hu (fun b hb hs => h3 b hb (hS b hs)) _ _ _ h2, h3⟩
theorem VT.below {w w' : World} {p b4 : Nat} {n : Nd} {V : Value} (h : VT w p b4 n V) (hb : Below w.heap.size w w') : VT w' p b4 n V := h.kept (Upd.below hb (fun _ => False)) (fun _ h => h.elim)
/-- With the copy of what was spoiled. -/
structure CpSt (w0 w : World) (b1 b4 b5 p d : Nat) (n : Nd) (a a' a2 : Option Addr) (c c' c2 : Nat) : Prop where
  sp : SpoSt w0 w b1 b4 p d n a a' c c'
  cpr : w.heap[b5]? = some (.cells (n.spoiled.row a2 c2).toArray 30 (0, 0))
  cp : NodeIn w (fun _ => True) 1 n.spoiled a2
theorem CpSt.below {w0 w w' : World} {b1 b4 b5 p d : Nat} {n : Nd} {a a' a2 : Option Addr} {c c' c2 : Nat} (h : CpSt w0 w b1 b4 b5 p d n a a' a2 c c' c2) (hb : Below w.heap.size w w') : CpSt w0 w' b1 b4 b5 p d n a a' a2 c c' c2 :=
  ⟨h.sp.below hb, (Upd.below hb (fun _ => False)).at_ h.cpr id, h.cp.below hb⟩
end Go.Proofs.Ythnbinlllmkabaa
