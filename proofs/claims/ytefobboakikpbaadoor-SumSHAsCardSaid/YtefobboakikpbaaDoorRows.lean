/-
  NARROWER THAN 'FOR EVERY INPUT', by the rows' own cells (each row's printed sentence says how): SumMillion: laid · SumPlays: laid · SumSHAs: laid · SumBytes: laid · SumDamage: laid · SumXor: laid · SumParts: laid · SumLong: laid.
  DERIVED. THE GIVEN ROWS OF THIS SEAT. 8 by the template 'for every input the law returns true; each argument reads behind the call as it read before'; 0 by the template 'total and deterministic' (their statements: YtefobboakikpbaaDoorTotals.lean).
  GIVEN WITH THE SEED: the statements are not yours to turn. If you find one false, say at which input.
  Laid BY PROGRAM, IN A SANDBOX (cutbox-rows.mjs): the forced cells as the released guide's own fill.sh prints them over the translation 469058d378e6a8b2… (all of the seat's roots in one cut). By AI agents, Wed Nov 11 2026. No macro, syntax, notation, axiom, sorry.
-/
import Derived.Test.YtefobboakikpbaaDoorChecked
import GoSem.Claim
import GoSem.ClaimJoined
import GoSem.ClaimMapViews
import Derived.JoinedTies
import Derived.KernelRfl
namespace Go.Proofs.YtefobboakikpbaaDoor
/- THE CELL 'sum', in the pinned program and in every row, IS THE sha256 OF THE DUMP (.gsa) THAT YtefobboakikpbaaDoorProg.lean LOADS. Nothing in Lean hashes anything: it is a label: what it is worth is what the hold of that sum in a sandbox is worth. -/
noncomputable def Tryd.pinned : Pinned := { name := "ytefobboakikpbaadoor", sum := "469058d378e6a8b2c959201c9e05204fffac82419bdc9eeea3491a743b094c55", checked := Tryd.checked }
namespace Rows
def none {H : Type} : Left H := { results := [], args := [] }

/- WHAT THE LISTED PACKAGE-LEVEL VARIABLES READ AS WHEN THE CALL BEGINS. Each datum BY PROGRAM (the guide's laid-datum.mjs) off the statement by which the dump's own 'gosem.cut.vars' lays the variable. In a bare row this is a premise. The card (YtefobboakikpbaaDoorCards.lean) ties it to the program's text. -/
def laid_twine_sum_begin {H : Type} : DataW H := .agg [.lit (.int .u32 1779033703), .lit (.int .u32 3144134277), .lit (.int .u32 1013904242), .lit (.int .u32 2773480762), .lit (.int .u32 1359893119), .lit (.int .u32 2600822924), .lit (.int .u32 528734635), .lit (.int .u32 1541459225)]
def laid_twine_sum_words {H : Type} : DataW H := .agg [.lit (.int .u32 1116352408), .lit (.int .u32 1899447441), .lit (.int .u32 3049323471), .lit (.int .u32 3921009573), .lit (.int .u32 961987163), .lit (.int .u32 1508970993), .lit (.int .u32 2453635748), .lit (.int .u32 2870763221), .lit (.int .u32 3624381080), .lit (.int .u32 310598401), .lit (.int .u32 607225278), .lit (.int .u32 1426881987), .lit (.int .u32 1925078388), .lit (.int .u32 2162078206), .lit (.int .u32 2614888103), .lit (.int .u32 3248222580), .lit (.int .u32 3835390401), .lit (.int .u32 4022224774), .lit (.int .u32 264347078), .lit (.int .u32 604807628), .lit (.int .u32 770255983), .lit (.int .u32 1249150122), .lit (.int .u32 1555081692), .lit (.int .u32 1996064986), .lit (.int .u32 2554220882), .lit (.int .u32 2821834349), .lit (.int .u32 2952996808), .lit (.int .u32 3210313671), .lit (.int .u32 3336571891), .lit (.int .u32 3584528711), .lit (.int .u32 113926993), .lit (.int .u32 338241895), .lit (.int .u32 666307205), .lit (.int .u32 773529912), .lit (.int .u32 1294757372), .lit (.int .u32 1396182291), .lit (.int .u32 1695183700), .lit (.int .u32 1986661051), .lit (.int .u32 2177026350), .lit (.int .u32 2456956037), .lit (.int .u32 2730485921), .lit (.int .u32 2820302411), .lit (.int .u32 3259730800), .lit (.int .u32 3345764771), .lit (.int .u32 3516065817), .lit (.int .u32 3600352804), .lit (.int .u32 4094571909), .lit (.int .u32 275423344), .lit (.int .u32 430227734), .lit (.int .u32 506948616), .lit (.int .u32 659060556), .lit (.int .u32 883997877), .lit (.int .u32 958139571), .lit (.int .u32 1322822218), .lit (.int .u32 1537002063), .lit (.int .u32 1747873779), .lit (.int .u32 1955562222), .lit (.int .u32 2024104815), .lit (.int .u32 2227730452), .lit (.int .u32 2361852424), .lit (.int .u32 2428436474), .lit (.int .u32 2756734187), .lit (.int .u32 3204031479), .lit (.int .u32 3329325298)]
def laid_twine_sum_fours {H : Type} : DataW H := .agg [.lit (.int .u32 0), .lit (.int .u32 498536548), .lit (.int .u32 997073096), .lit (.int .u32 651767980), .lit (.int .u32 1994146192), .lit (.int .u32 1802195444), .lit (.int .u32 1303535960), .lit (.int .u32 1342533948), .lit (.int .u32 3988292384), .lit (.int .u32 4027552580), .lit (.int .u32 3604390888), .lit (.int .u32 3412177804), .lit (.int .u32 2607071920), .lit (.int .u32 2262029012), .lit (.int .u32 2685067896), .lit (.int .u32 3183342108)]

/-- 'twinelaw2.SumMillion': WHATEVER THE INPUT: true; the input reads as it did. -/
def sumMillionSpec : ChangeSpec := { name := "sumMillion", fn := fun _ => fun
  | [] => { results := [.lit (.bool true)], args := [] }
  | _ => none }
def sumMillionRow : OpenClaim := { program := "ytefobboakikpbaadoor", sum := "469058d378e6a8b2c959201c9e05204fffac82419bdc9eeea3491a743b094c55", func := "twine/twinelaw2.SumMillion", spec := "sumMillion", named := ["twine/sum.begin", "twine/sum.words"], apart := false, laid := [("twine/sum.begin", laid_twine_sum_begin), ("twine/sum.words", laid_twine_sum_words)] }
def SumMillionSaid : Prop := sumMillionRow.holds Tryd.pinned (OpenSpec.ofChange sumMillionSpec)

/-- ITS FALSE NEIGHBOUR: 'it returns false'. Refute it at one input. -/
def sumMillionWrong : ChangeSpec := { name := "sumMillion", fn := fun _ => fun
  | [] => { results := [.lit (.bool false)], args := [] }
  | _ => none }
def SumMillionWrongFalsely : Prop := sumMillionRow.holds Tryd.pinned (OpenSpec.ofChange sumMillionWrong)

/-- 'twinelaw2.SumPlays': WHATEVER THE INPUT: true; the input reads as it did. -/
def sumPlaysSpec : ChangeSpec := { name := "sumPlays", fn := fun _ => fun
  | [d] => { results := [.lit (.bool true)], args := [d] }
  | _ => none }
def sumPlaysRow : OpenClaim := { program := "ytefobboakikpbaadoor", sum := "469058d378e6a8b2c959201c9e05204fffac82419bdc9eeea3491a743b094c55", func := "twine/twinelaw2.SumPlays", spec := "sumPlays", named := ["twine/sum.begin", "twine/sum.words"], apart := false, laid := [("twine/sum.begin", laid_twine_sum_begin), ("twine/sum.words", laid_twine_sum_words)] }
def SumPlaysSaid : Prop := sumPlaysRow.holds Tryd.pinned (OpenSpec.ofChange sumPlaysSpec)

/-- ITS FALSE NEIGHBOUR: 'it returns false'. Refute it at one input. -/
def sumPlaysWrong : ChangeSpec := { name := "sumPlays", fn := fun _ => fun
  | [d] => { results := [.lit (.bool false)], args := [d] }
  | _ => none }
def SumPlaysWrongFalsely : Prop := sumPlaysRow.holds Tryd.pinned (OpenSpec.ofChange sumPlaysWrong)

/-- 'twinelaw2.SumSHAs': WHATEVER THE INPUT: true; the input reads as it did. -/
def sumSHAsSpec : ChangeSpec := { name := "sumSHAs", fn := fun _ => fun
  | [d] => { results := [.lit (.bool true)], args := [d] }
  | _ => none }
def sumSHAsRow : OpenClaim := { program := "ytefobboakikpbaadoor", sum := "469058d378e6a8b2c959201c9e05204fffac82419bdc9eeea3491a743b094c55", func := "twine/twinelaw2.SumSHAs", spec := "sumSHAs", named := ["twine/sum.begin", "twine/sum.words"], apart := false, laid := [("twine/sum.begin", laid_twine_sum_begin), ("twine/sum.words", laid_twine_sum_words)] }
def SumSHAsSaid : Prop := sumSHAsRow.holds Tryd.pinned (OpenSpec.ofChange sumSHAsSpec)

/-- ITS FALSE NEIGHBOUR: 'it returns false'. Refute it at one input. -/
def sumSHAsWrong : ChangeSpec := { name := "sumSHAs", fn := fun _ => fun
  | [d] => { results := [.lit (.bool false)], args := [d] }
  | _ => none }
def SumSHAsWrongFalsely : Prop := sumSHAsRow.holds Tryd.pinned (OpenSpec.ofChange sumSHAsWrong)

/-- 'twinelaw2.SumBytes': WHATEVER THE INPUT: true; the input reads as it did. -/
def sumBytesSpec : ChangeSpec := { name := "sumBytes", fn := fun _ => fun
  | [d] => { results := [.lit (.bool true)], args := [d] }
  | _ => none }
def sumBytesRow : OpenClaim := { program := "ytefobboakikpbaadoor", sum := "469058d378e6a8b2c959201c9e05204fffac82419bdc9eeea3491a743b094c55", func := "twine/twinelaw2.SumBytes", spec := "sumBytes", named := ["twine/sum.begin", "twine/sum.words", "twine/sum.fours"], apart := false, laid := [("twine/sum.begin", laid_twine_sum_begin), ("twine/sum.words", laid_twine_sum_words), ("twine/sum.fours", laid_twine_sum_fours)] }
def SumBytesSaid : Prop := sumBytesRow.holds Tryd.pinned (OpenSpec.ofChange sumBytesSpec)

/-- ITS FALSE NEIGHBOUR: 'it returns false'. Refute it at one input. -/
def sumBytesWrong : ChangeSpec := { name := "sumBytes", fn := fun _ => fun
  | [d] => { results := [.lit (.bool false)], args := [d] }
  | _ => none }
def SumBytesWrongFalsely : Prop := sumBytesRow.holds Tryd.pinned (OpenSpec.ofChange sumBytesWrong)

/-- 'twinelaw2.SumDamage': WHATEVER THE INPUT: true; the input reads as it did. -/
def sumDamageSpec : ChangeSpec := { name := "sumDamage", fn := fun _ => fun
  | [d1, d2, d3] => { results := [.lit (.bool true)], args := [d1, d2, d3] }
  | _ => none }
def sumDamageRow : OpenClaim := { program := "ytefobboakikpbaadoor", sum := "469058d378e6a8b2c959201c9e05204fffac82419bdc9eeea3491a743b094c55", func := "twine/twinelaw2.SumDamage", spec := "sumDamage", named := ["twine/sum.begin", "twine/sum.words", "twine/sum.fours"], apart := false, laid := [("twine/sum.begin", laid_twine_sum_begin), ("twine/sum.words", laid_twine_sum_words), ("twine/sum.fours", laid_twine_sum_fours)] }
def SumDamageSaid : Prop := sumDamageRow.holds Tryd.pinned (OpenSpec.ofChange sumDamageSpec)

/-- ITS FALSE NEIGHBOUR: 'it returns false'. Refute it at one input. -/
def sumDamageWrong : ChangeSpec := { name := "sumDamage", fn := fun _ => fun
  | [d1, d2, d3] => { results := [.lit (.bool false)], args := [d1, d2, d3] }
  | _ => none }
def SumDamageWrongFalsely : Prop := sumDamageRow.holds Tryd.pinned (OpenSpec.ofChange sumDamageWrong)

/-- 'twinelaw2.SumXor': WHATEVER THE INPUT: true; the input reads as it did. -/
def sumXorSpec : ChangeSpec := { name := "sumXor", fn := fun _ => fun
  | [d1, d2, d3] => { results := [.lit (.bool true)], args := [d1, d2, d3] }
  | _ => none }
def sumXorRow : OpenClaim := { program := "ytefobboakikpbaadoor", sum := "469058d378e6a8b2c959201c9e05204fffac82419bdc9eeea3491a743b094c55", func := "twine/twinelaw2.SumXor", spec := "sumXor", named := ["twine/sum.begin", "twine/sum.words", "twine/sum.fours"], apart := false, laid := [("twine/sum.begin", laid_twine_sum_begin), ("twine/sum.words", laid_twine_sum_words), ("twine/sum.fours", laid_twine_sum_fours)] }
def SumXorSaid : Prop := sumXorRow.holds Tryd.pinned (OpenSpec.ofChange sumXorSpec)

/-- ITS FALSE NEIGHBOUR: 'it returns false'. Refute it at one input. -/
def sumXorWrong : ChangeSpec := { name := "sumXor", fn := fun _ => fun
  | [d1, d2, d3] => { results := [.lit (.bool false)], args := [d1, d2, d3] }
  | _ => none }
def SumXorWrongFalsely : Prop := sumXorRow.holds Tryd.pinned (OpenSpec.ofChange sumXorWrong)

/-- 'twinelaw2.SumParts': WHATEVER THE INPUT: true; the input reads as it did. -/
def sumPartsSpec : ChangeSpec := { name := "sumParts", fn := fun _ => fun
  | [d1, d2, d3] => { results := [.lit (.bool true)], args := [d1, d2, d3] }
  | _ => none }
def sumPartsRow : OpenClaim := { program := "ytefobboakikpbaadoor", sum := "469058d378e6a8b2c959201c9e05204fffac82419bdc9eeea3491a743b094c55", func := "twine/twinelaw2.SumParts", spec := "sumParts", named := ["twine/sum.begin", "twine/sum.words", "twine/sum.fours"], apart := false, laid := [("twine/sum.begin", laid_twine_sum_begin), ("twine/sum.words", laid_twine_sum_words), ("twine/sum.fours", laid_twine_sum_fours)] }
def SumPartsSaid : Prop := sumPartsRow.holds Tryd.pinned (OpenSpec.ofChange sumPartsSpec)

/-- ITS FALSE NEIGHBOUR: 'it returns false'. Refute it at one input. -/
def sumPartsWrong : ChangeSpec := { name := "sumParts", fn := fun _ => fun
  | [d1, d2, d3] => { results := [.lit (.bool false)], args := [d1, d2, d3] }
  | _ => none }
def SumPartsWrongFalsely : Prop := sumPartsRow.holds Tryd.pinned (OpenSpec.ofChange sumPartsWrong)

/-- 'twinelaw2.SumLong': WHATEVER THE INPUT: true; the input reads as it did. -/
def sumLongSpec : ChangeSpec := { name := "sumLong", fn := fun _ => fun
  | [d1, d2, d3] => { results := [.lit (.bool true)], args := [d1, d2, d3] }
  | _ => none }
def sumLongRow : OpenClaim := { program := "ytefobboakikpbaadoor", sum := "469058d378e6a8b2c959201c9e05204fffac82419bdc9eeea3491a743b094c55", func := "twine/twinelaw2.SumLong", spec := "sumLong", named := ["twine/sum.begin", "twine/sum.words", "twine/sum.fours"], apart := false, laid := [("twine/sum.begin", laid_twine_sum_begin), ("twine/sum.words", laid_twine_sum_words), ("twine/sum.fours", laid_twine_sum_fours)] }
def SumLongSaid : Prop := sumLongRow.holds Tryd.pinned (OpenSpec.ofChange sumLongSpec)

/-- ITS FALSE NEIGHBOUR: 'it returns false'. Refute it at one input. -/
def sumLongWrong : ChangeSpec := { name := "sumLong", fn := fun _ => fun
  | [d1, d2, d3] => { results := [.lit (.bool false)], args := [d1, d2, d3] }
  | _ => none }
def SumLongWrongFalsely : Prop := sumLongRow.holds Tryd.pinned (OpenSpec.ofChange sumLongWrong)

/- THE SECOND FORM. 'bulk': how many values and letters a reading holds, each counted each time it is reached (what is shared counts as often as it is met; a slice's spare places count too). A statement '..UptoSaid' is the law's where the arguments, and the package variables that the reading takes, are together of bulk at most 1048576: NARROWER than '..Said'. Prove '..Said' where nothing that the law and all that it calls make is longer than what came in: it says more and counts as full. Else prove '..UptoSaid'. A law counts once. -/
mutual
def uptoBulk {H : Type} : DataW H → Nat
  | .lit (.string bytes) => bytes.length + 1
  | .lit _ => 1
  | .nil => 1
  | .ptr d => uptoBulk d + 1
  | .slice elems spare => uptoBulkAll elems + uptoBulkAll spare + 1
  | .agg parts => uptoBulkAll parts + 1
  | .iface _ d => uptoBulk d + 1
  | .map entries => uptoBulkEntries entries + 1
  | .held _ => 1
def uptoBulkAll {H : Type} : List (DataW H) → Nat
  | [] => 0
  | d :: r => uptoBulk d + uptoBulkAll r
def uptoBulkEntries {H : Type} : List (Lit × DataW H) → Nat
  | [] => 0
  | x :: r => uptoBulkEntry x + uptoBulkEntries r
def uptoBulkEntry {H : Type} : Lit × DataW H → Nat
  | (.string bytes, d) => bytes.length + uptoBulk d + 1
  | (_, d) => uptoBulk d + 1
 end
def uptoSmall : (H : Type) → List (DataW H) → Bool := fun _ ds => decide (uptoBulkAll ds ≤ 1048576)
def OpenSpec.upto (s : _root_.Go.ChangeSpec) : _root_.Go.OpenSpec := { _root_.Go.OpenSpec.ofChange s with cond := some uptoSmall }

/-- 'twinelaw2.SumMillion', WHERE WHAT IT READS IS OF BULK AT MOST 1048576: true; the input reads as it did. -/
def sumMillionUptoRow : OpenClaim := { program := "ytefobboakikpbaadoor", sum := "469058d378e6a8b2c959201c9e05204fffac82419bdc9eeea3491a743b094c55", func := "twine/twinelaw2.SumMillion", spec := "sumMillion", named := ["twine/sum.begin", "twine/sum.words"], apart := false, laid := [("twine/sum.begin", laid_twine_sum_begin), ("twine/sum.words", laid_twine_sum_words)], narrowed := true }
def SumMillionUptoSaid : Prop := sumMillionUptoRow.holds Tryd.pinned (OpenSpec.upto sumMillionSpec)

/-- 'twinelaw2.SumPlays', WHERE WHAT IT READS IS OF BULK AT MOST 1048576: true; the input reads as it did. -/
def sumPlaysUptoRow : OpenClaim := { program := "ytefobboakikpbaadoor", sum := "469058d378e6a8b2c959201c9e05204fffac82419bdc9eeea3491a743b094c55", func := "twine/twinelaw2.SumPlays", spec := "sumPlays", named := ["twine/sum.begin", "twine/sum.words"], apart := false, laid := [("twine/sum.begin", laid_twine_sum_begin), ("twine/sum.words", laid_twine_sum_words)], narrowed := true }
def SumPlaysUptoSaid : Prop := sumPlaysUptoRow.holds Tryd.pinned (OpenSpec.upto sumPlaysSpec)

/-- 'twinelaw2.SumSHAs', WHERE WHAT IT READS IS OF BULK AT MOST 1048576: true; the input reads as it did. -/
def sumSHAsUptoRow : OpenClaim := { program := "ytefobboakikpbaadoor", sum := "469058d378e6a8b2c959201c9e05204fffac82419bdc9eeea3491a743b094c55", func := "twine/twinelaw2.SumSHAs", spec := "sumSHAs", named := ["twine/sum.begin", "twine/sum.words"], apart := false, laid := [("twine/sum.begin", laid_twine_sum_begin), ("twine/sum.words", laid_twine_sum_words)], narrowed := true }
def SumSHAsUptoSaid : Prop := sumSHAsUptoRow.holds Tryd.pinned (OpenSpec.upto sumSHAsSpec)

/-- 'twinelaw2.SumBytes', WHERE WHAT IT READS IS OF BULK AT MOST 1048576: true; the input reads as it did. -/
def sumBytesUptoRow : OpenClaim := { program := "ytefobboakikpbaadoor", sum := "469058d378e6a8b2c959201c9e05204fffac82419bdc9eeea3491a743b094c55", func := "twine/twinelaw2.SumBytes", spec := "sumBytes", named := ["twine/sum.begin", "twine/sum.words", "twine/sum.fours"], apart := false, laid := [("twine/sum.begin", laid_twine_sum_begin), ("twine/sum.words", laid_twine_sum_words), ("twine/sum.fours", laid_twine_sum_fours)], narrowed := true }
def SumBytesUptoSaid : Prop := sumBytesUptoRow.holds Tryd.pinned (OpenSpec.upto sumBytesSpec)

/-- 'twinelaw2.SumDamage', WHERE WHAT IT READS IS OF BULK AT MOST 1048576: true; the input reads as it did. -/
def sumDamageUptoRow : OpenClaim := { program := "ytefobboakikpbaadoor", sum := "469058d378e6a8b2c959201c9e05204fffac82419bdc9eeea3491a743b094c55", func := "twine/twinelaw2.SumDamage", spec := "sumDamage", named := ["twine/sum.begin", "twine/sum.words", "twine/sum.fours"], apart := false, laid := [("twine/sum.begin", laid_twine_sum_begin), ("twine/sum.words", laid_twine_sum_words), ("twine/sum.fours", laid_twine_sum_fours)], narrowed := true }
def SumDamageUptoSaid : Prop := sumDamageUptoRow.holds Tryd.pinned (OpenSpec.upto sumDamageSpec)

/-- 'twinelaw2.SumXor', WHERE WHAT IT READS IS OF BULK AT MOST 1048576: true; the input reads as it did. -/
def sumXorUptoRow : OpenClaim := { program := "ytefobboakikpbaadoor", sum := "469058d378e6a8b2c959201c9e05204fffac82419bdc9eeea3491a743b094c55", func := "twine/twinelaw2.SumXor", spec := "sumXor", named := ["twine/sum.begin", "twine/sum.words", "twine/sum.fours"], apart := false, laid := [("twine/sum.begin", laid_twine_sum_begin), ("twine/sum.words", laid_twine_sum_words), ("twine/sum.fours", laid_twine_sum_fours)], narrowed := true }
def SumXorUptoSaid : Prop := sumXorUptoRow.holds Tryd.pinned (OpenSpec.upto sumXorSpec)

/-- 'twinelaw2.SumParts', WHERE WHAT IT READS IS OF BULK AT MOST 1048576: true; the input reads as it did. -/
def sumPartsUptoRow : OpenClaim := { program := "ytefobboakikpbaadoor", sum := "469058d378e6a8b2c959201c9e05204fffac82419bdc9eeea3491a743b094c55", func := "twine/twinelaw2.SumParts", spec := "sumParts", named := ["twine/sum.begin", "twine/sum.words", "twine/sum.fours"], apart := false, laid := [("twine/sum.begin", laid_twine_sum_begin), ("twine/sum.words", laid_twine_sum_words), ("twine/sum.fours", laid_twine_sum_fours)], narrowed := true }
def SumPartsUptoSaid : Prop := sumPartsUptoRow.holds Tryd.pinned (OpenSpec.upto sumPartsSpec)

/-- 'twinelaw2.SumLong', WHERE WHAT IT READS IS OF BULK AT MOST 1048576: true; the input reads as it did. -/
def sumLongUptoRow : OpenClaim := { program := "ytefobboakikpbaadoor", sum := "469058d378e6a8b2c959201c9e05204fffac82419bdc9eeea3491a743b094c55", func := "twine/twinelaw2.SumLong", spec := "sumLong", named := ["twine/sum.begin", "twine/sum.words", "twine/sum.fours"], apart := false, laid := [("twine/sum.begin", laid_twine_sum_begin), ("twine/sum.words", laid_twine_sum_words), ("twine/sum.fours", laid_twine_sum_fours)], narrowed := true }
def SumLongUptoSaid : Prop := sumLongUptoRow.holds Tryd.pinned (OpenSpec.upto sumLongSpec)

end Rows
end Go.Proofs.YtefobboakikpbaaDoor
