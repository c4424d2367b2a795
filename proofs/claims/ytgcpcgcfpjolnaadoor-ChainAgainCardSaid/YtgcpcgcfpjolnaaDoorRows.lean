/-
  NARROWER THAN 'FOR EVERY INPUT', by the rows' own cells (each row's printed sentence says how): ChainLent: laid · ChainTurns: laid · ChainBytes: laid · ChainAgain: laid · ChainGreat: laid · ChainReads: laid · ChainEnds: laid · ChainBack: laid · ChainWrites: laid · ChainTells: laid.
  DERIVED. THE GIVEN ROWS OF THIS SEAT. 10 by the template 'for every input the law returns true; each argument reads behind the call as it read before'; 0 by the template 'total and deterministic' (their statements: YtgcpcgcfpjolnaaDoorTotals.lean).
  GIVEN WITH THE SEED: the statements are not yours to turn. If you find one false, say at which input.
  Laid BY PROGRAM, IN A SANDBOX (cutbox-rows.mjs): the forced cells as the released guide's own fill.sh prints them over the translation d0ccf4aba8a3b1f4… (all of the seat's roots in one cut). By AI agents, Wed Nov 11 2026. No macro, syntax, notation, axiom, sorry.
-/
import Derived.Test.YtgcpcgcfpjolnaaDoorChecked
import GoSem.Claim
import GoSem.ClaimJoined
import GoSem.ClaimMapViews
import Derived.JoinedTies
import Derived.KernelRfl
namespace Go.Proofs.YtgcpcgcfpjolnaaDoor
/- THE CELL 'sum', in the pinned program and in every row, IS THE sha256 OF THE DUMP (.gsa) THAT YtgcpcgcfpjolnaaDoorProg.lean LOADS. Nothing in Lean hashes anything: it is a label: what it is worth is what the hold of that sum in a sandbox is worth. -/
noncomputable def Tryd.pinned : Pinned := { name := "ytgcpcgcfpjolnaadoor", sum := "d0ccf4aba8a3b1f4f8d41e6dcb8389b33384fb3e1f0693fb6ad6c969ce503cd4", checked := Tryd.checked }
namespace Rows
def none {H : Type} : Left H := { results := [], args := [] }

/- WHAT THE LISTED PACKAGE-LEVEL VARIABLES READ AS WHEN THE CALL BEGINS. Each datum BY PROGRAM (the guide's laid-datum.mjs) off the statement by which the dump's own 'gosem.cut.vars' lays the variable. In a bare row this is a premise. The card (YtgcpcgcfpjolnaaDoorCards.lean) ties it to the program's text. -/
def laid_math_bits_deBruijn64tab {H : Type} : DataW H := .agg [.lit (.int .u8 0), .lit (.int .u8 1), .lit (.int .u8 56), .lit (.int .u8 2), .lit (.int .u8 57), .lit (.int .u8 49), .lit (.int .u8 28), .lit (.int .u8 3), .lit (.int .u8 61), .lit (.int .u8 58), .lit (.int .u8 42), .lit (.int .u8 50), .lit (.int .u8 38), .lit (.int .u8 29), .lit (.int .u8 17), .lit (.int .u8 4), .lit (.int .u8 62), .lit (.int .u8 47), .lit (.int .u8 59), .lit (.int .u8 36), .lit (.int .u8 45), .lit (.int .u8 43), .lit (.int .u8 51), .lit (.int .u8 22), .lit (.int .u8 53), .lit (.int .u8 39), .lit (.int .u8 33), .lit (.int .u8 30), .lit (.int .u8 24), .lit (.int .u8 18), .lit (.int .u8 12), .lit (.int .u8 5), .lit (.int .u8 63), .lit (.int .u8 55), .lit (.int .u8 48), .lit (.int .u8 27), .lit (.int .u8 60), .lit (.int .u8 41), .lit (.int .u8 37), .lit (.int .u8 16), .lit (.int .u8 46), .lit (.int .u8 35), .lit (.int .u8 44), .lit (.int .u8 21), .lit (.int .u8 52), .lit (.int .u8 32), .lit (.int .u8 23), .lit (.int .u8 11), .lit (.int .u8 54), .lit (.int .u8 26), .lit (.int .u8 40), .lit (.int .u8 15), .lit (.int .u8 34), .lit (.int .u8 20), .lit (.int .u8 31), .lit (.int .u8 10), .lit (.int .u8 25), .lit (.int .u8 14), .lit (.int .u8 19), .lit (.int .u8 9), .lit (.int .u8 13), .lit (.int .u8 8), .lit (.int .u8 7), .lit (.int .u8 6)]
def laid_kiln_sha_table {H : Type} : DataW H := .agg [.lit (.int .u32 1116352408), .lit (.int .u32 1899447441), .lit (.int .u32 3049323471), .lit (.int .u32 3921009573), .lit (.int .u32 961987163), .lit (.int .u32 1508970993), .lit (.int .u32 2453635748), .lit (.int .u32 2870763221), .lit (.int .u32 3624381080), .lit (.int .u32 310598401), .lit (.int .u32 607225278), .lit (.int .u32 1426881987), .lit (.int .u32 1925078388), .lit (.int .u32 2162078206), .lit (.int .u32 2614888103), .lit (.int .u32 3248222580), .lit (.int .u32 3835390401), .lit (.int .u32 4022224774), .lit (.int .u32 264347078), .lit (.int .u32 604807628), .lit (.int .u32 770255983), .lit (.int .u32 1249150122), .lit (.int .u32 1555081692), .lit (.int .u32 1996064986), .lit (.int .u32 2554220882), .lit (.int .u32 2821834349), .lit (.int .u32 2952996808), .lit (.int .u32 3210313671), .lit (.int .u32 3336571891), .lit (.int .u32 3584528711), .lit (.int .u32 113926993), .lit (.int .u32 338241895), .lit (.int .u32 666307205), .lit (.int .u32 773529912), .lit (.int .u32 1294757372), .lit (.int .u32 1396182291), .lit (.int .u32 1695183700), .lit (.int .u32 1986661051), .lit (.int .u32 2177026350), .lit (.int .u32 2456956037), .lit (.int .u32 2730485921), .lit (.int .u32 2820302411), .lit (.int .u32 3259730800), .lit (.int .u32 3345764771), .lit (.int .u32 3516065817), .lit (.int .u32 3600352804), .lit (.int .u32 4094571909), .lit (.int .u32 275423344), .lit (.int .u32 430227734), .lit (.int .u32 506948616), .lit (.int .u32 659060556), .lit (.int .u32 883997877), .lit (.int .u32 958139571), .lit (.int .u32 1322822218), .lit (.int .u32 1537002063), .lit (.int .u32 1747873779), .lit (.int .u32 1955562222), .lit (.int .u32 2024104815), .lit (.int .u32 2227730452), .lit (.int .u32 2361852424), .lit (.int .u32 2428436474), .lit (.int .u32 2756734187), .lit (.int .u32 3204031479), .lit (.int .u32 3329325298)]
def laid_kiln_wire_half {H : Type} : DataW H := .agg [.lit (.int .u32 0), .lit (.int .u32 498536548), .lit (.int .u32 997073096), .lit (.int .u32 651767980), .lit (.int .u32 1994146192), .lit (.int .u32 1802195444), .lit (.int .u32 1303535960), .lit (.int .u32 1342533948), .lit (.int .u32 3988292384), .lit (.int .u32 4027552580), .lit (.int .u32 3604390888), .lit (.int .u32 3412177804), .lit (.int .u32 2607071920), .lit (.int .u32 2262029012), .lit (.int .u32 2685067896), .lit (.int .u32 3183342108)]

/-- 'kilnlaw6.ChainLent': WHATEVER THE INPUT: true; the input reads as it did. -/
def chainLentSpec : ChangeSpec := { name := "chainLent", fn := fun _ => fun
  | [d1, d2] => { results := [.lit (.bool true)], args := [d1, d2] }
  | _ => none }
def chainLentRow : OpenClaim := { program := "ytgcpcgcfpjolnaadoor", sum := "d0ccf4aba8a3b1f4f8d41e6dcb8389b33384fb3e1f0693fb6ad6c969ce503cd4", func := "kiln/kilnlaw6.ChainLent", spec := "chainLent", named := ["math/bits.deBruijn64tab", "kiln/sha.table", "kiln/wire.half"], apart := false, laid := [("math/bits.deBruijn64tab", laid_math_bits_deBruijn64tab), ("kiln/sha.table", laid_kiln_sha_table), ("kiln/wire.half", laid_kiln_wire_half)] }
def ChainLentSaid : Prop := chainLentRow.holds Tryd.pinned (OpenSpec.ofChange chainLentSpec)

/-- ITS FALSE NEIGHBOUR: 'it returns false'. Refute it at one input. -/
def chainLentWrong : ChangeSpec := { name := "chainLent", fn := fun _ => fun
  | [d1, d2] => { results := [.lit (.bool false)], args := [d1, d2] }
  | _ => none }
def ChainLentWrongFalsely : Prop := chainLentRow.holds Tryd.pinned (OpenSpec.ofChange chainLentWrong)

/-- 'kilnlaw6.ChainTurns': WHATEVER THE INPUT: true; the input reads as it did. -/
def chainTurnsSpec : ChangeSpec := { name := "chainTurns", fn := fun _ => fun
  | [d1, d2, d3] => { results := [.lit (.bool true)], args := [d1, d2, d3] }
  | _ => none }
def chainTurnsRow : OpenClaim := { program := "ytgcpcgcfpjolnaadoor", sum := "d0ccf4aba8a3b1f4f8d41e6dcb8389b33384fb3e1f0693fb6ad6c969ce503cd4", func := "kiln/kilnlaw6.ChainTurns", spec := "chainTurns", named := ["math/bits.deBruijn64tab", "kiln/sha.table", "kiln/wire.half"], apart := false, laid := [("math/bits.deBruijn64tab", laid_math_bits_deBruijn64tab), ("kiln/sha.table", laid_kiln_sha_table), ("kiln/wire.half", laid_kiln_wire_half)] }
def ChainTurnsSaid : Prop := chainTurnsRow.holds Tryd.pinned (OpenSpec.ofChange chainTurnsSpec)

/-- ITS FALSE NEIGHBOUR: 'it returns false'. Refute it at one input. -/
def chainTurnsWrong : ChangeSpec := { name := "chainTurns", fn := fun _ => fun
  | [d1, d2, d3] => { results := [.lit (.bool false)], args := [d1, d2, d3] }
  | _ => none }
def ChainTurnsWrongFalsely : Prop := chainTurnsRow.holds Tryd.pinned (OpenSpec.ofChange chainTurnsWrong)

/-- 'kilnlaw6.ChainBytes': WHATEVER THE INPUT: true; the input reads as it did. -/
def chainBytesSpec : ChangeSpec := { name := "chainBytes", fn := fun _ => fun
  | [d1, d2, d3, d4, d5] => { results := [.lit (.bool true)], args := [d1, d2, d3, d4, d5] }
  | _ => none }
def chainBytesRow : OpenClaim := { program := "ytgcpcgcfpjolnaadoor", sum := "d0ccf4aba8a3b1f4f8d41e6dcb8389b33384fb3e1f0693fb6ad6c969ce503cd4", func := "kiln/kilnlaw6.ChainBytes", spec := "chainBytes", named := ["kiln/wire.half", "math/bits.deBruijn64tab", "kiln/sha.table"], apart := false, laid := [("math/bits.deBruijn64tab", laid_math_bits_deBruijn64tab), ("kiln/sha.table", laid_kiln_sha_table), ("kiln/wire.half", laid_kiln_wire_half)] }
def ChainBytesSaid : Prop := chainBytesRow.holds Tryd.pinned (OpenSpec.ofChange chainBytesSpec)

/-- ITS FALSE NEIGHBOUR: 'it returns false'. Refute it at one input. -/
def chainBytesWrong : ChangeSpec := { name := "chainBytes", fn := fun _ => fun
  | [d1, d2, d3, d4, d5] => { results := [.lit (.bool false)], args := [d1, d2, d3, d4, d5] }
  | _ => none }
def ChainBytesWrongFalsely : Prop := chainBytesRow.holds Tryd.pinned (OpenSpec.ofChange chainBytesWrong)

/-- 'kilnlaw6.ChainAgain': WHATEVER THE INPUT: true; the input reads as it did. -/
def chainAgainSpec : ChangeSpec := { name := "chainAgain", fn := fun _ => fun
  | [d] => { results := [.lit (.bool true)], args := [d] }
  | _ => none }
def chainAgainRow : OpenClaim := { program := "ytgcpcgcfpjolnaadoor", sum := "d0ccf4aba8a3b1f4f8d41e6dcb8389b33384fb3e1f0693fb6ad6c969ce503cd4", func := "kiln/kilnlaw6.ChainAgain", spec := "chainAgain", named := ["math/bits.deBruijn64tab", "kiln/sha.table", "kiln/wire.half"], apart := false, laid := [("math/bits.deBruijn64tab", laid_math_bits_deBruijn64tab), ("kiln/sha.table", laid_kiln_sha_table), ("kiln/wire.half", laid_kiln_wire_half)] }
def ChainAgainSaid : Prop := chainAgainRow.holds Tryd.pinned (OpenSpec.ofChange chainAgainSpec)

/-- ITS FALSE NEIGHBOUR: 'it returns false'. Refute it at one input. -/
def chainAgainWrong : ChangeSpec := { name := "chainAgain", fn := fun _ => fun
  | [d] => { results := [.lit (.bool false)], args := [d] }
  | _ => none }
def ChainAgainWrongFalsely : Prop := chainAgainRow.holds Tryd.pinned (OpenSpec.ofChange chainAgainWrong)

/-- 'kilnlaw6.ChainGreat': WHATEVER THE INPUT: true; the input reads as it did. -/
def chainGreatSpec : ChangeSpec := { name := "chainGreat", fn := fun _ => fun
  | [d1, d2, d3, d4, d5, d6] => { results := [.lit (.bool true)], args := [d1, d2, d3, d4, d5, d6] }
  | _ => none }
def chainGreatRow : OpenClaim := { program := "ytgcpcgcfpjolnaadoor", sum := "d0ccf4aba8a3b1f4f8d41e6dcb8389b33384fb3e1f0693fb6ad6c969ce503cd4", func := "kiln/kilnlaw6.ChainGreat", spec := "chainGreat", named := ["math/bits.deBruijn64tab", "kiln/sha.table", "kiln/wire.half"], apart := false, laid := [("math/bits.deBruijn64tab", laid_math_bits_deBruijn64tab), ("kiln/sha.table", laid_kiln_sha_table), ("kiln/wire.half", laid_kiln_wire_half)] }
def ChainGreatSaid : Prop := chainGreatRow.holds Tryd.pinned (OpenSpec.ofChange chainGreatSpec)

/-- ITS FALSE NEIGHBOUR: 'it returns false'. Refute it at one input. -/
def chainGreatWrong : ChangeSpec := { name := "chainGreat", fn := fun _ => fun
  | [d1, d2, d3, d4, d5, d6] => { results := [.lit (.bool false)], args := [d1, d2, d3, d4, d5, d6] }
  | _ => none }
def ChainGreatWrongFalsely : Prop := chainGreatRow.holds Tryd.pinned (OpenSpec.ofChange chainGreatWrong)

/-- 'kilnlaw6.ChainReads': WHATEVER THE INPUT: true; the input reads as it did. -/
def chainReadsSpec : ChangeSpec := { name := "chainReads", fn := fun _ => fun
  | [d1, d2, d3] => { results := [.lit (.bool true)], args := [d1, d2, d3] }
  | _ => none }
def chainReadsRow : OpenClaim := { program := "ytgcpcgcfpjolnaadoor", sum := "d0ccf4aba8a3b1f4f8d41e6dcb8389b33384fb3e1f0693fb6ad6c969ce503cd4", func := "kiln/kilnlaw6.ChainReads", spec := "chainReads", named := ["kiln/wire.half", "kiln/sha.table", "math/bits.deBruijn64tab"], apart := false, laid := [("math/bits.deBruijn64tab", laid_math_bits_deBruijn64tab), ("kiln/sha.table", laid_kiln_sha_table), ("kiln/wire.half", laid_kiln_wire_half)] }
def ChainReadsSaid : Prop := chainReadsRow.holds Tryd.pinned (OpenSpec.ofChange chainReadsSpec)

/-- ITS FALSE NEIGHBOUR: 'it returns false'. Refute it at one input. -/
def chainReadsWrong : ChangeSpec := { name := "chainReads", fn := fun _ => fun
  | [d1, d2, d3] => { results := [.lit (.bool false)], args := [d1, d2, d3] }
  | _ => none }
def ChainReadsWrongFalsely : Prop := chainReadsRow.holds Tryd.pinned (OpenSpec.ofChange chainReadsWrong)

/-- 'kilnlaw6.ChainEnds': WHATEVER THE INPUT: true; the input reads as it did. -/
def chainEndsSpec : ChangeSpec := { name := "chainEnds", fn := fun _ => fun
  | [d1, d2, d3] => { results := [.lit (.bool true)], args := [d1, d2, d3] }
  | _ => none }
def chainEndsRow : OpenClaim := { program := "ytgcpcgcfpjolnaadoor", sum := "d0ccf4aba8a3b1f4f8d41e6dcb8389b33384fb3e1f0693fb6ad6c969ce503cd4", func := "kiln/kilnlaw6.ChainEnds", spec := "chainEnds", named := ["math/bits.deBruijn64tab", "kiln/sha.table", "kiln/wire.half"], apart := false, laid := [("math/bits.deBruijn64tab", laid_math_bits_deBruijn64tab), ("kiln/sha.table", laid_kiln_sha_table), ("kiln/wire.half", laid_kiln_wire_half)] }
def ChainEndsSaid : Prop := chainEndsRow.holds Tryd.pinned (OpenSpec.ofChange chainEndsSpec)

/-- ITS FALSE NEIGHBOUR: 'it returns false'. Refute it at one input. -/
def chainEndsWrong : ChangeSpec := { name := "chainEnds", fn := fun _ => fun
  | [d1, d2, d3] => { results := [.lit (.bool false)], args := [d1, d2, d3] }
  | _ => none }
def ChainEndsWrongFalsely : Prop := chainEndsRow.holds Tryd.pinned (OpenSpec.ofChange chainEndsWrong)

/-- 'kilnlaw6.ChainBack': WHATEVER THE INPUT: true; the input reads as it did. -/
def chainBackSpec : ChangeSpec := { name := "chainBack", fn := fun _ => fun
  | [d1, d2, d3] => { results := [.lit (.bool true)], args := [d1, d2, d3] }
  | _ => none }
def chainBackRow : OpenClaim := { program := "ytgcpcgcfpjolnaadoor", sum := "d0ccf4aba8a3b1f4f8d41e6dcb8389b33384fb3e1f0693fb6ad6c969ce503cd4", func := "kiln/kilnlaw6.ChainBack", spec := "chainBack", named := ["math/bits.deBruijn64tab", "kiln/sha.table", "kiln/wire.half"], apart := false, laid := [("math/bits.deBruijn64tab", laid_math_bits_deBruijn64tab), ("kiln/sha.table", laid_kiln_sha_table), ("kiln/wire.half", laid_kiln_wire_half)] }
def ChainBackSaid : Prop := chainBackRow.holds Tryd.pinned (OpenSpec.ofChange chainBackSpec)

/-- ITS FALSE NEIGHBOUR: 'it returns false'. Refute it at one input. -/
def chainBackWrong : ChangeSpec := { name := "chainBack", fn := fun _ => fun
  | [d1, d2, d3] => { results := [.lit (.bool false)], args := [d1, d2, d3] }
  | _ => none }
def ChainBackWrongFalsely : Prop := chainBackRow.holds Tryd.pinned (OpenSpec.ofChange chainBackWrong)

/-- 'kilnlaw6.ChainWrites': WHATEVER THE INPUT: true; the input reads as it did. -/
def chainWritesSpec : ChangeSpec := { name := "chainWrites", fn := fun _ => fun
  | [d1, d2] => { results := [.lit (.bool true)], args := [d1, d2] }
  | _ => none }
def chainWritesRow : OpenClaim := { program := "ytgcpcgcfpjolnaadoor", sum := "d0ccf4aba8a3b1f4f8d41e6dcb8389b33384fb3e1f0693fb6ad6c969ce503cd4", func := "kiln/kilnlaw6.ChainWrites", spec := "chainWrites", named := ["math/bits.deBruijn64tab", "kiln/sha.table", "kiln/wire.half"], apart := false, laid := [("math/bits.deBruijn64tab", laid_math_bits_deBruijn64tab), ("kiln/sha.table", laid_kiln_sha_table), ("kiln/wire.half", laid_kiln_wire_half)] }
def ChainWritesSaid : Prop := chainWritesRow.holds Tryd.pinned (OpenSpec.ofChange chainWritesSpec)

/-- ITS FALSE NEIGHBOUR: 'it returns false'. Refute it at one input. -/
def chainWritesWrong : ChangeSpec := { name := "chainWrites", fn := fun _ => fun
  | [d1, d2] => { results := [.lit (.bool false)], args := [d1, d2] }
  | _ => none }
def ChainWritesWrongFalsely : Prop := chainWritesRow.holds Tryd.pinned (OpenSpec.ofChange chainWritesWrong)

/-- 'kilnlaw6.ChainTells': WHATEVER THE INPUT: true; the input reads as it did. -/
def chainTellsSpec : ChangeSpec := { name := "chainTells", fn := fun _ => fun
  | [d1, d2, d3, d4, d5, d6] => { results := [.lit (.bool true)], args := [d1, d2, d3, d4, d5, d6] }
  | _ => none }
def chainTellsRow : OpenClaim := { program := "ytgcpcgcfpjolnaadoor", sum := "d0ccf4aba8a3b1f4f8d41e6dcb8389b33384fb3e1f0693fb6ad6c969ce503cd4", func := "kiln/kilnlaw6.ChainTells", spec := "chainTells", named := ["math/bits.deBruijn64tab", "kiln/sha.table", "kiln/wire.half"], apart := false, laid := [("math/bits.deBruijn64tab", laid_math_bits_deBruijn64tab), ("kiln/sha.table", laid_kiln_sha_table), ("kiln/wire.half", laid_kiln_wire_half)] }
def ChainTellsSaid : Prop := chainTellsRow.holds Tryd.pinned (OpenSpec.ofChange chainTellsSpec)

/-- ITS FALSE NEIGHBOUR: 'it returns false'. Refute it at one input. -/
def chainTellsWrong : ChangeSpec := { name := "chainTells", fn := fun _ => fun
  | [d1, d2, d3, d4, d5, d6] => { results := [.lit (.bool false)], args := [d1, d2, d3, d4, d5, d6] }
  | _ => none }
def ChainTellsWrongFalsely : Prop := chainTellsRow.holds Tryd.pinned (OpenSpec.ofChange chainTellsWrong)

/- THE SECOND FORM. 'bulk': how many values and letters a reading holds, each counted each time it is reached (what is shared counts as often as it is met; a slice's spare places count too). A statement '..UptoSaid' is the law's where the arguments, and the package variables that the reading takes, are together of bulk at most 1048576: NARROWER than '..Said'. Prove '..Said' where nothing that the law and all that it calls make is longer than what came in: it says more and counts as full. Else prove '..UptoSaid'. A law counts once. -/
mutual
def uptoBulk {H : Type} : DataW H → Nat
  | .lit (.string bytes) => bytes.length + 1
  | .lit _ => 1
  | .nil => 1
  | .ptr d => uptoBulk d + 1
  | .slice elems spare => uptoBulkAll elems + uptoBulkAll spare + 1
  | .agg parts => uptoBulkAll parts + 1
  | .iface _ d => uptoBulk d + 1
  | .map entries => uptoBulkEntries entries + 1
  | .held _ => 1
def uptoBulkAll {H : Type} : List (DataW H) → Nat
  | [] => 0
  | d :: r => uptoBulk d + uptoBulkAll r
def uptoBulkEntries {H : Type} : List (Lit × DataW H) → Nat
  | [] => 0
  | x :: r => uptoBulkEntry x + uptoBulkEntries r
def uptoBulkEntry {H : Type} : Lit × DataW H → Nat
  | (.string bytes, d) => bytes.length + uptoBulk d + 1
  | (_, d) => uptoBulk d + 1
 end
def uptoSmall : (H : Type) → List (DataW H) → Bool := fun _ ds => decide (uptoBulkAll ds ≤ 1048576)
def OpenSpec.upto (s : _root_.Go.ChangeSpec) : _root_.Go.OpenSpec := { _root_.Go.OpenSpec.ofChange s with cond := some uptoSmall }

/-- 'kilnlaw6.ChainLent', WHERE WHAT IT READS IS OF BULK AT MOST 1048576: true; the input reads as it did. -/
def chainLentUptoRow : OpenClaim := { program := "ytgcpcgcfpjolnaadoor", sum := "d0ccf4aba8a3b1f4f8d41e6dcb8389b33384fb3e1f0693fb6ad6c969ce503cd4", func := "kiln/kilnlaw6.ChainLent", spec := "chainLent", named := ["math/bits.deBruijn64tab", "kiln/sha.table", "kiln/wire.half"], apart := false, laid := [("math/bits.deBruijn64tab", laid_math_bits_deBruijn64tab), ("kiln/sha.table", laid_kiln_sha_table), ("kiln/wire.half", laid_kiln_wire_half)], narrowed := true }
def ChainLentUptoSaid : Prop := chainLentUptoRow.holds Tryd.pinned (OpenSpec.upto chainLentSpec)

/-- 'kilnlaw6.ChainTurns', WHERE WHAT IT READS IS OF BULK AT MOST 1048576: true; the input reads as it did. -/
def chainTurnsUptoRow : OpenClaim := { program := "ytgcpcgcfpjolnaadoor", sum := "d0ccf4aba8a3b1f4f8d41e6dcb8389b33384fb3e1f0693fb6ad6c969ce503cd4", func := "kiln/kilnlaw6.ChainTurns", spec := "chainTurns", named := ["math/bits.deBruijn64tab", "kiln/sha.table", "kiln/wire.half"], apart := false, laid := [("math/bits.deBruijn64tab", laid_math_bits_deBruijn64tab), ("kiln/sha.table", laid_kiln_sha_table), ("kiln/wire.half", laid_kiln_wire_half)], narrowed := true }
def ChainTurnsUptoSaid : Prop := chainTurnsUptoRow.holds Tryd.pinned (OpenSpec.upto chainTurnsSpec)

/-- 'kilnlaw6.ChainBytes', WHERE WHAT IT READS IS OF BULK AT MOST 1048576: true; the input reads as it did. -/
def chainBytesUptoRow : OpenClaim := { program := "ytgcpcgcfpjolnaadoor", sum := "d0ccf4aba8a3b1f4f8d41e6dcb8389b33384fb3e1f0693fb6ad6c969ce503cd4", func := "kiln/kilnlaw6.ChainBytes", spec := "chainBytes", named := ["kiln/wire.half", "math/bits.deBruijn64tab", "kiln/sha.table"], apart := false, laid := [("math/bits.deBruijn64tab", laid_math_bits_deBruijn64tab), ("kiln/sha.table", laid_kiln_sha_table), ("kiln/wire.half", laid_kiln_wire_half)], narrowed := true }
def ChainBytesUptoSaid : Prop := chainBytesUptoRow.holds Tryd.pinned (OpenSpec.upto chainBytesSpec)

/-- 'kilnlaw6.ChainAgain', WHERE WHAT IT READS IS OF BULK AT MOST 1048576: true; the input reads as it did. -/
def chainAgainUptoRow : OpenClaim := { program := "ytgcpcgcfpjolnaadoor", sum := "d0ccf4aba8a3b1f4f8d41e6dcb8389b33384fb3e1f0693fb6ad6c969ce503cd4", func := "kiln/kilnlaw6.ChainAgain", spec := "chainAgain", named := ["math/bits.deBruijn64tab", "kiln/sha.table", "kiln/wire.half"], apart := false, laid := [("math/bits.deBruijn64tab", laid_math_bits_deBruijn64tab), ("kiln/sha.table", laid_kiln_sha_table), ("kiln/wire.half", laid_kiln_wire_half)], narrowed := true }
def ChainAgainUptoSaid : Prop := chainAgainUptoRow.holds Tryd.pinned (OpenSpec.upto chainAgainSpec)

/-- 'kilnlaw6.ChainGreat', WHERE WHAT IT READS IS OF BULK AT MOST 1048576: true; the input reads as it did. -/
def chainGreatUptoRow : OpenClaim := { program := "ytgcpcgcfpjolnaadoor", sum := "d0ccf4aba8a3b1f4f8d41e6dcb8389b33384fb3e1f0693fb6ad6c969ce503cd4", func := "kiln/kilnlaw6.ChainGreat", spec := "chainGreat", named := ["math/bits.deBruijn64tab", "kiln/sha.table", "kiln/wire.half"], apart := false, laid := [("math/bits.deBruijn64tab", laid_math_bits_deBruijn64tab), ("kiln/sha.table", laid_kiln_sha_table), ("kiln/wire.half", laid_kiln_wire_half)], narrowed := true }
def ChainGreatUptoSaid : Prop := chainGreatUptoRow.holds Tryd.pinned (OpenSpec.upto chainGreatSpec)

/-- 'kilnlaw6.ChainReads', WHERE WHAT IT READS IS OF BULK AT MOST 1048576: true; the input reads as it did. -/
def chainReadsUptoRow : OpenClaim := { program := "ytgcpcgcfpjolnaadoor", sum := "d0ccf4aba8a3b1f4f8d41e6dcb8389b33384fb3e1f0693fb6ad6c969ce503cd4", func := "kiln/kilnlaw6.ChainReads", spec := "chainReads", named := ["kiln/wire.half", "kiln/sha.table", "math/bits.deBruijn64tab"], apart := false, laid := [("math/bits.deBruijn64tab", laid_math_bits_deBruijn64tab), ("kiln/sha.table", laid_kiln_sha_table), ("kiln/wire.half", laid_kiln_wire_half)], narrowed := true }
def ChainReadsUptoSaid : Prop := chainReadsUptoRow.holds Tryd.pinned (OpenSpec.upto chainReadsSpec)

/-- 'kilnlaw6.ChainEnds', WHERE WHAT IT READS IS OF BULK AT MOST 1048576: true; the input reads as it did. -/
def chainEndsUptoRow : OpenClaim := { program := "ytgcpcgcfpjolnaadoor", sum := "d0ccf4aba8a3b1f4f8d41e6dcb8389b33384fb3e1f0693fb6ad6c969ce503cd4", func := "kiln/kilnlaw6.ChainEnds", spec := "chainEnds", named := ["math/bits.deBruijn64tab", "kiln/sha.table", "kiln/wire.half"], apart := false, laid := [("math/bits.deBruijn64tab", laid_math_bits_deBruijn64tab), ("kiln/sha.table", laid_kiln_sha_table), ("kiln/wire.half", laid_kiln_wire_half)], narrowed := true }
def ChainEndsUptoSaid : Prop := chainEndsUptoRow.holds Tryd.pinned (OpenSpec.upto chainEndsSpec)

/-- 'kilnlaw6.ChainBack', WHERE WHAT IT READS IS OF BULK AT MOST 1048576: true; the input reads as it did. -/
def chainBackUptoRow : OpenClaim := { program := "ytgcpcgcfpjolnaadoor", sum := "d0ccf4aba8a3b1f4f8d41e6dcb8389b33384fb3e1f0693fb6ad6c969ce503cd4", func := "kiln/kilnlaw6.ChainBack", spec := "chainBack", named := ["math/bits.deBruijn64tab", "kiln/sha.table", "kiln/wire.half"], apart := false, laid := [("math/bits.deBruijn64tab", laid_math_bits_deBruijn64tab), ("kiln/sha.table", laid_kiln_sha_table), ("kiln/wire.half", laid_kiln_wire_half)], narrowed := true }
def ChainBackUptoSaid : Prop := chainBackUptoRow.holds Tryd.pinned (OpenSpec.upto chainBackSpec)

/-- 'kilnlaw6.ChainWrites', WHERE WHAT IT READS IS OF BULK AT MOST 1048576: true; the input reads as it did. -/
def chainWritesUptoRow : OpenClaim := { program := "ytgcpcgcfpjolnaadoor", sum := "d0ccf4aba8a3b1f4f8d41e6dcb8389b33384fb3e1f0693fb6ad6c969ce503cd4", func := "kiln/kilnlaw6.ChainWrites", spec := "chainWrites", named := ["math/bits.deBruijn64tab", "kiln/sha.table", "kiln/wire.half"], apart := false, laid := [("math/bits.deBruijn64tab", laid_math_bits_deBruijn64tab), ("kiln/sha.table", laid_kiln_sha_table), ("kiln/wire.half", laid_kiln_wire_half)], narrowed := true }
def ChainWritesUptoSaid : Prop := chainWritesUptoRow.holds Tryd.pinned (OpenSpec.upto chainWritesSpec)

/-- 'kilnlaw6.ChainTells', WHERE WHAT IT READS IS OF BULK AT MOST 1048576: true; the input reads as it did. -/
def chainTellsUptoRow : OpenClaim := { program := "ytgcpcgcfpjolnaadoor", sum := "d0ccf4aba8a3b1f4f8d41e6dcb8389b33384fb3e1f0693fb6ad6c969ce503cd4", func := "kiln/kilnlaw6.ChainTells", spec := "chainTells", named := ["math/bits.deBruijn64tab", "kiln/sha.table", "kiln/wire.half"], apart := false, laid := [("math/bits.deBruijn64tab", laid_math_bits_deBruijn64tab), ("kiln/sha.table", laid_kiln_sha_table), ("kiln/wire.half", laid_kiln_wire_half)], narrowed := true }
def ChainTellsUptoSaid : Prop := chainTellsUptoRow.holds Tryd.pinned (OpenSpec.upto chainTellsSpec)

end Rows
end Go.Proofs.YtgcpcgcfpjolnaaDoor
