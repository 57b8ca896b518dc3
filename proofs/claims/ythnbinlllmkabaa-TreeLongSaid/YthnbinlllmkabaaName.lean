/- Names: path.Check and the reference's. -/
import Derived.Test.YthnbinlllmkabaaGen
import Derived.Test.YthnbinlllmkabaaProg
import Derived.Lib.OthersKept
import Derived.Lib.RuneCount
namespace Go.Proofs.Ythnbinlllmkabaa
open Go.RowKit
set_option linter.unusedVariables false
set_option linter.unusedSimpArgs false

/-- Is it a name? -/
def plainB (b : UInt8) : Bool := b.toNat != 47 && b.toNat != 0
def okName (s : ByteArray) : Bool := decide (1 ≤ s.size) && decide (s.size ≤ 255) && !(s.toList == [46]) && !(s.toList == [46, 46]) && s.toList.all plainB
/-- The error of a name. -/
def nameErr (s : ByteArray) : Int := if okName s then 0 else 30
/-- What a rune tells of the bytes that it was made of. -/
theorem decode_bytes (s : ByteArray) (i : Nat) (h : i < s.size) : (∀ hlt : (Utf8.decode s i).1 < 128, (Utf8.decode s i).1 = (s[i]'h).toNat ∧ (Utf8.decode s i).2 = 1) ∧
    (128 ≤ (Utf8.decode s i).1 → ∀ j, j < (Utf8.decode s i).2 → 128 ≤ (s.get! (i + j)).toNat) ∧ 1 ≤ (Utf8.decode s i).2 ∧ i + (Utf8.decode s i).2 ≤ s.size := by
  have e : s.get! (i + 0) = s[i]'h := by
    show s.get! i = _
    simp [ByteArray.get!, getElem!_pos, h]
    rfl
  by_cases ha : (s[i]'h).toNat < 128
  · rw [decode_ascii s i h ha]
    exact ⟨fun _ => ⟨rfl, rfl⟩, fun h2 => absurd h2 (Nat.not_le.2 ha), Nat.le_refl 1, by show i + 1 ≤ s.size; omega⟩
  · have e0 : (s.get! (i + 0)).toNat = (s[i]'h).toNat := by rw [e]
    simp only [Utf8.decode, e0, ha, if_false]
    generalize hb0 : (s[i]'h).toNat = b0 at *
    generalize hb1 : (s.get! (i + 1)).toNat = b1 at *
    generalize hb2 : (s.get! (i + 2)).toNat = b2 at *
    generalize hb3 : (s.get! (i + 3)).toNat = b3 at *
    have one : ∀ j, j < 1 → 128 ≤ (s.get! (i + j)).toNat := fun j hj => by
      have hj0 : j = 0 := by omega
      rw [hj0, e0]
      omega
    simp only [Bool.and_eq_true, beq_iff_eq, decide_eq_true_eq, Utf8.runeError]
    split
    · rename_i hc
      split
      · refine ⟨fun h => absurd h (by omega), fun _ j hj => ?_, by show (1 : Nat) ≤ _; simp, by omega⟩
        match j, hj with
        | 0, _ => rw [e0]; omega
        | 1, _ => rw [hb1]; omega
        | j + 2, hj => omega
      · exact ⟨fun h => absurd h (by decide), fun _ => one, by decide, by omega⟩
    · split
      · rename_i hc
        split
        · rename_i hc2
          refine ⟨fun h => absurd h (by omega), fun _ j hj => ?_, by show (1 : Nat) ≤ _; simp, by omega⟩
          match j, hj with
          | 0, _ => rw [e0]; omega
          | 1, _ => rw [hb1]; omega
          | 2, _ => rw [hb2]; omega
          | j + 3, hj => omega
        · exact ⟨fun h => absurd h (by decide), fun _ => one, by decide, by omega⟩
      · split
        · rename_i hc
          split
          · rename_i hc2
            refine ⟨fun h => absurd h (by omega), fun _ j hj => ?_, by show (1 : Nat) ≤ _; simp, by omega⟩
            match j, hj with
            | 0, _ => rw [e0]; omega
            | 1, _ => rw [hb1]; omega
            | 2, _ => rw [hb2]; omega
            | 3, _ => rw [hb3]; omega
            | j + 4, hj => omega
          · exact ⟨fun h => absurd h (by decide), fun _ => one, by decide, by omega⟩
        · exact ⟨fun h => absurd h (by decide), fun _ => one, by decide, by omega⟩
theorem get_bang (s : ByteArray) (i : Nat) (h : i < s.size) : s.get! i = s[i]'h := by
  simp [ByteArray.get!, getElem!_pos, h]
  rfl
theorem toList_get (s : ByteArray) (i : Nat) (h : i < s.size) : s.toList[i]? = some (s[i]'h) := by
  rw [ByteArray.toList_eq]
  have : i < s.data.toList.length := by simpa using h
  rw [List.getElem?_eq_getElem this]
  rfl
theorem toList_len (s : ByteArray) : s.toList.length = s.size := by rw [ByteArray.toList_eq]; rfl
/-- All bytes ahead of i are plain. -/
def plainTo (s : ByteArray) (i : Nat) : Prop := ∀ j b, j < i → s.toList[j]? = some b → plainB b = true
theorem plainTo_all {s : ByteArray} (h : plainTo s s.size) : s.toList.all plainB = true := by
  rw [List.all_eq_true]
  intro b hb
  obtain ⟨j, hj, rfl⟩ := List.mem_iff_getElem.1 hb
  exact h j _ (by rw [← toList_len]; exact hj) (List.getElem?_eq_getElem hj)
theorem plain_not {s : ByteArray} {i : Nat} {b : UInt8} (h : s.toList[i]? = some b) (hb : plainB b = false) : s.toList.all plainB = false := by
  rw [Bool.eq_false_iff]
  intro hall
  rw [List.all_eq_true] at hall
  have := hall b (List.mem_of_getElem? h)
  rw [hb] at this
  cases this
/-- Is a name's text short enough, and not a dot or two? -/
def preName (s : ByteArray) : Bool := decide (1 ≤ s.size) && decide (s.size ≤ 255) && !(s.toList == [46]) && !(s.toList == [46, 46])
theorem okName_eq (s : ByteArray) : okName s = (preName s && s.toList.all plainB) := rfl
theorem preName_true {s : ByteArray} (h : preName s = true) : 1 ≤ s.size ∧ s.size ≤ 255 ∧ (s.toList == [46]) = false ∧ (s.toList == [46, 46]) = false := by
  unfold preName at h
  simp only [Bool.and_eq_true, decide_eq_true_eq, Bool.not_eq_true'] at h
  exact ⟨h.1.1.1, h.1.1.2, h.1.2, h.2⟩
theorem preName_false {s : ByteArray} (h : preName s = false) : s.size < 1 ∨ (1 ≤ s.size ∧ 255 < s.size) ∨ (1 ≤ s.size ∧ s.size ≤ 255 ∧ (s.toList == [46]) = true) ∨ (1 ≤ s.size ∧ s.size ≤ 255 ∧ (s.toList == [46]) = false ∧ (s.toList == [46, 46]) = true) := by
  by_cases a : 1 ≤ s.size
  · by_cases b : s.size ≤ 255
    · cases h3 : (s.toList == [46]) with
      | true => exact .inr (.inr (.inl ⟨a, b, rfl⟩))
      | false =>
        cases h4 : (s.toList == [46, 46]) with
        | true => exact .inr (.inr (.inr ⟨a, b, rfl, rfl⟩))
        | false =>
          exfalso
          unfold preName at h
          rw [h3, h4, decide_eq_true a, decide_eq_true b] at h
          cases h
    · exact .inr (.inl ⟨a, by omega⟩)
  · exact .inl (by omega)
set_option maxHeartbeats 1000000 in
set_option maxRecDepth 100000 in
theorem name_any (w : World) (s : ByteArray) (hs : s.size ≤ 9223372036854775807) :
    Calls Try.prog 117 #[.string s] w fun e w' => e = .returned (.bool (okName s)) ∧ w' = w := by
  rw [okName_eq]
  cases hp : preName s with
  | false =>
    rw [Bool.false_and]
    rcases preName_false hp with h | ⟨h1, h2⟩ | ⟨h1, h2, h3⟩ | ⟨h1, h2, h3, h4⟩
    all_goals
      clear hp
      go_enter Try.func117, Try.ntmps117
      go_wp2
      go_ret
      exact ⟨rfl, rfl⟩
  | true =>
    rw [Bool.true_and]
    obtain ⟨h1, h2, h3, h4⟩ := preName_true hp
    clear hp
    go_enter Try.func117, Try.ntmps117
    go_wp2_with fail
    go_loopw [3] (fun i wr => ∃ k : Nat, k ≤ s.size ∧ i = .int .i64 k ∧ wr = w ∧ plainTo s k) (fun i _ => s.size - (intOf i).toNat)
    case atStart => exact ⟨0, Nat.zero_le _, rfl, rfl, fun j b hj => by omega⟩
    case round =>
      obtain ⟨k, hk, rfl, hw, hpl⟩ := hrel
      obtain rfl := hw.symm
      have Hpl := Lib.hid hpl
      clear hpl
      by_cases hlt : k < s.size
      · have hbl := toList_get s k hlt
        have Hbl := Lib.hid hbl
        clear hbl
        by_cases h47 : (s[k]'hlt).toNat = 47
        · have hb : plainB (s[k]'hlt) = false := by simp [plainB, h47]
          have e1 : (((s[k]'hlt).toNat : Int) == 47) = true := by rw [h47]; rfl
          have Hf := Lib.hid (plain_not Hbl.out hb)
          clear h47 hb
          go_wp2
          go_ret
          exact ⟨by rw [Hf.out]; rfl, rfl⟩
        · have e1 : (((s[k]'hlt).toNat : Int) == 47) = false := by rw [beq_eq_false_iff_ne]; omega
          by_cases h0 : (s[k]'hlt).toNat = 0
          · have hb : plainB (s[k]'hlt) = false := by simp [plainB, h0]
            have e2 : (((s[k]'hlt).toNat : Int) == 0) = true := by rw [h0]; rfl
            have Hf := Lib.hid (plain_not Hbl.out hb)
            clear h47 hb h0
            go_wp2
            go_ret
            exact ⟨by rw [Hf.out]; rfl, rfl⟩
          · have e2 : (((s[k]'hlt).toNat : Int) == 0) = false := by rw [beq_eq_false_iff_ne]; omega
            have hb : plainB (s[k]'hlt) = true := by simp [plainB, h0, h47]
            have Hb := Lib.hid hb
            clear h47 h0 hb
            go_wp2
            go_roundw
            case rel =>
              refine ⟨k + 1, hlt, by go_num, trivial, fun j b hj hjb => ?_⟩
              by_cases hjk : j = k
              · subst hjk
                rw [Hbl.out] at hjb
                injection hjb with hjb
                rw [← hjb]; exact Hb.out
              · exact Hpl.out j b (by omega) hjb
            case measure => simp [intOf]; omega
      · obtain rfl : k = s.size := by omega
        have Hf := Lib.hid (plainTo_all Hpl.out)
        go_wp2
        go_ret
        exact ⟨by rw [Hf.out]; rfl, rfl⟩
theorem refCheck_any (w : World) (s : ByteArray) (hs : s.size ≤ 9223372036854775807) :
    Calls Try.prog 104 #[.string s] w fun e w' => e = .returned (.int .i64 (nameErr s)) ∧ w' = w := by
  cases hn : okName s with
  | true =>
    have Hn := Lib.hid (name_any w s hs)
    rw [hn] at Hn
    have He : Hid (nameErr s = 0) := by show _ = _; unfold nameErr; rw [hn]; rfl
    clear hn
    go_enter Try.func104, Try.ntmps104
    go_wp2_with fail
    refine Hn.out.mono ?_
    rintro e w' ⟨rfl, hw⟩
    obtain rfl := hw.symm
    go_wp2
    go_ret
    exact ⟨by rw [He.out]; rfl, rfl⟩
  | false =>
    have Hn := Lib.hid (name_any w s hs)
    rw [hn] at Hn
    have He : Hid (nameErr s = 30) := by show _ = _; unfold nameErr; rw [hn]; rfl
    clear hn
    go_enter Try.func104, Try.ntmps104
    go_wp2_with fail
    refine Hn.out.mono ?_
    rintro e w' ⟨rfl, hw⟩
    obtain rfl := hw.symm
    go_wp2
    go_ret
    exact ⟨by rw [He.out]; rfl, rfl⟩
set_option maxHeartbeats 1000000 in
set_option maxRecDepth 100000 in
theorem check_name (w : World) (s : ByteArray) (hs : s.size ≤ 9223372036854775807) :
    Calls Try.prog 105 #[.string s] w fun e w' => e = .returned (.int .i64 (nameErr s)) ∧ Below w.heap.size w w' := by
  cases hp : preName s with
  | false =>
    have He : Hid (nameErr s = 30) := by show _ = _; unfold nameErr; rw [okName_eq, hp]; rfl
    rcases preName_false hp with h | ⟨h1, h2⟩ | ⟨h1, h2, h3⟩ | ⟨h1, h2, h3, h4⟩
    all_goals
      clear hp
      go_enter Try.func105, Try.ntmps105
      go_wp2
      go_ret
      exact ⟨by rw [He.out]; rfl, Below.refl _ _⟩
  | true =>
    obtain ⟨h1, h2, h3, h4⟩ := preName_true hp
    have hst : (w.iter s 0).heap[w.heap.size]? = some (.stringIter s 0) := World.iter_heap w s 0
    have hsb : Below w.heap.size w (w.iter s 0) := (Below.refl _ _).alloc (Nat.le_refl _) _
    have Hst := Lib.hid (And.intro hst hsb)
    have Hp := Lib.hid hp
    clear hp hst hsb
    go_enter Try.func105, Try.ntmps105
    go_wp2_with fail
    go_loopw [] (fun wr => ∃ k : Nat, k ≤ s.size ∧ wr.heap[w.heap.size]? = some (.stringIter s k) ∧ Below w.heap.size w wr ∧ plainTo s k) (fun wr => s.size - wr.iterPos w.heap.size)
    case atStart => exact ⟨0, Nat.zero_le _, Hst.out.1, Hst.out.2, fun j b hj => by omega⟩
    case round =>
      obtain ⟨k, hk, hit, hb, hpl⟩ := hrel
      have Hpl := Lib.hid hpl
      have Hb := Lib.hid hb
      have Hit := Lib.hid hit
      clear hpl hb
      by_cases hlt : k < s.size
      · obtain ⟨hd1, hd2, hd3, hd4⟩ := decode_bytes s k hlt
        obtain ⟨c, hc⟩ : ∃ c, c = (Utf8.decode s k).1 := ⟨_, rfl⟩
        obtain ⟨wd, hwd⟩ : ∃ wd, wd = (Utf8.decode s k).2 := ⟨_, rfl⟩
        have hnx := fun ty => Lib.run_next_any_at (P := Try.prog) wr w.heap.size s k ty hit hlt
        rw [← hc, ← hwd] at hd1
        rw [← hc, ← hwd] at hd2
        rw [← hwd] at hd3 hd4
        simp only [← hc, ← hwd] at hnx
        have hit2 := Lib.iterAt_heap wr w.heap.size s k (k + wd) hit
        have hb2 := Lib.below_iterAt Hb.out (k := w.heap.size) (Nat.le_refl _) s (k + wd)
        have H2 := Lib.hid (And.intro hit2 hb2)
        have hbl := toList_get s k hlt
        have hgb : ∀ j (h : k + j < s.size), s.toList[k + j]? = some (s.get! (k + j)) := fun j h => by rw [get_bang s _ h]; exact toList_get s _ h
        by_cases h47 : c = 47 ∨ c = 0
        · have hf : s.toList.all plainB = false := by
            have h1 := (hd1 (by omega)).1
            exact plain_not hbl (by rcases h47 with h | h <;> (rw [h] at h1; simp [plainB, ← h1]))
          have He : Hid (nameErr s = 30) := by show _ = _; unfold nameErr; rw [okName_eq, Hp.out, hf]; rfl
          rcases h47 with h | h
          all_goals
            subst h
            clear hd1 hd2 hc hwd hit2 hb2 hbl hgb hf hit
            go_wp2
            go_ret
            exact ⟨by rw [He.out]; rfl, H2.out.2⟩
        · have e1 : ((c : Int) == 47) = false := by rw [beq_eq_false_iff_ne]; omega
          have e2 : ((c : Int) == 0) = false := by rw [beq_eq_false_iff_ne]; omega
          have hpl2 : plainTo s (k + wd) := by
            intro j b hj hjb
            by_cases hjk : j < k
            · exact Hpl.out j b hjk hjb
            · obtain ⟨i, rfl⟩ : ∃ i, j = k + i := ⟨j - k, by omega⟩
              rw [hgb i (by omega)] at hjb
              injection hjb with hjb
              by_cases hc128 : c < 128
              · obtain ⟨h1, h2⟩ := hd1 hc128
                obtain rfl : i = 0 := by omega
                have h3 : (s.get! (k + 0)).toNat = c := by rw [Nat.add_zero, get_bang s k hlt, h1]
                rw [← hjb]
                simp only [plainB, h3]
                simp; omega
              · have h1 := hd2 (by omega) i (by omega)
                rw [← hjb]
                simp only [plainB]
                simp; omega
          have Hpl2 := Lib.hid hpl2
          clear hd1 hd2 hc hwd hit2 hb2 hbl hgb hpl2 h47
          go_wp2
          go_roundw
          case rel => exact ⟨k + wd, hd4, H2.out.1, H2.out.2, Hpl2.out⟩
          case measure =>
            have h1 := H2.out.1
            simp only [World.iterPos, h1, hit]
            omega
      · obtain rfl : k = s.size := by omega
        have hnx := fun ty => Lib.run_next_end_at (P := Try.prog) wr w.heap.size s s.size ty hit hlt
        have He : Hid (nameErr s = 0) := by show _ = _; unfold nameErr; rw [okName_eq, Hp.out, plainTo_all Hpl.out]; rfl
        go_wp2
        go_ret
        exact ⟨by rw [He.out]; rfl, Hb.out⟩
end Go.Proofs.Ythnbinlllmkabaa
