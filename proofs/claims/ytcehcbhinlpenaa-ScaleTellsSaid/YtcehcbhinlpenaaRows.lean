/-
  No cell of these rows narrows 'for every input' (looked for: loops, veiled, ifaces, maps, wideKeys, modest, calm, conditions, laid).
  DERIVED. THE GIVEN ROWS OF THIS SEAT. 8 by the template 'for every input the law returns true; each argument reads behind the call as it read before'; 0 by the template 'total and deterministic' (their statements: YtcehcbhinlpenaaTotals.lean).
  GIVEN WITH THE SEED: the statements are not yours to turn. If you find one false, say at which input.
  Laid BY PROGRAM, IN A SANDBOX (cutbox-rows.mjs): the forced cells as the released guide's own fill.sh prints them over the translation b388135b77acf1e4… (all of the seat's roots in one cut). By AI agents, Wed Nov 11 2026. No macro, syntax, notation, axiom, sorry.
-/
import Derived.Test.YtcehcbhinlpenaaChecked
import GoSem.Claim
import GoSem.ClaimJoined
import GoSem.ClaimMapViews
import Derived.JoinedTies
import Derived.KernelRfl
namespace Go.Proofs.Ytcehcbhinlpenaa
/- THE CELL 'sum', in the pinned program and in every row, IS THE sha256 OF THE DUMP (.gsa) THAT YtcehcbhinlpenaaProg.lean LOADS. Nothing in Lean hashes anything: it is a label: what it is worth is what the hold of that sum in a sandbox is worth. -/
noncomputable def Try.pinned : Pinned := { name := "ytcehcbhinlpenaa", sum := "b388135b77acf1e4a8ae025b978cd3efc1e780a432745816bb07fbad15cc62fc", checked := Try.checked }
namespace Rows
def none {H : Type} : Left H := { results := [], args := [] }

/-- 'gavelkindlaw02.WideTells': WHATEVER THE INPUT: true; the input reads as it did. -/
def wideTellsSpec : ChangeSpec := { name := "wideTells", fn := fun _ => fun
  | [d1, d2] => { results := [.lit (.bool true)], args := [d1, d2] }
  | _ => none }
def wideTellsRow : OpenClaim := { program := "ytcehcbhinlpenaa", sum := "b388135b77acf1e4a8ae025b978cd3efc1e780a432745816bb07fbad15cc62fc", func := "gavelkind/gavelkindlaw02.WideTells", spec := "wideTells", inPlace := ["math/bits.Sub64", "math/bits.Add64"], unfollowed := true, recurses := true, apart := false }
def WideTellsSaid : Prop := wideTellsRow.holds Try.pinned (OpenSpec.ofChange wideTellsSpec)

/-- ITS FALSE NEIGHBOUR: 'it returns false'. Refute it at one input. -/
def wideTellsWrong : ChangeSpec := { name := "wideTells", fn := fun _ => fun
  | [d1, d2] => { results := [.lit (.bool false)], args := [d1, d2] }
  | _ => none }
def WideTellsWrongFalsely : Prop := wideTellsRow.holds Try.pinned (OpenSpec.ofChange wideTellsWrong)

/-- 'gavelkindlaw02.WideSums': WHATEVER THE INPUT: true; the input reads as it did. -/
def wideSumsSpec : ChangeSpec := { name := "wideSums", fn := fun _ => fun
  | [d1, d2] => { results := [.lit (.bool true)], args := [d1, d2] }
  | _ => none }
def wideSumsRow : OpenClaim := { program := "ytcehcbhinlpenaa", sum := "b388135b77acf1e4a8ae025b978cd3efc1e780a432745816bb07fbad15cc62fc", func := "gavelkind/gavelkindlaw02.WideSums", spec := "wideSums", inPlace := ["math/bits.Add64", "math/bits.Sub64"], unfollowed := true, recurses := true, apart := false }
def WideSumsSaid : Prop := wideSumsRow.holds Try.pinned (OpenSpec.ofChange wideSumsSpec)

/-- ITS FALSE NEIGHBOUR: 'it returns false'. Refute it at one input. -/
def wideSumsWrong : ChangeSpec := { name := "wideSums", fn := fun _ => fun
  | [d1, d2] => { results := [.lit (.bool false)], args := [d1, d2] }
  | _ => none }
def WideSumsWrongFalsely : Prop := wideSumsRow.holds Try.pinned (OpenSpec.ofChange wideSumsWrong)

/-- 'gavelkindlaw02.WideBack': WHATEVER THE INPUT: true; the input reads as it did. -/
def wideBackSpec : ChangeSpec := { name := "wideBack", fn := fun _ => fun
  | [d1, d2, d3] => { results := [.lit (.bool true)], args := [d1, d2, d3] }
  | _ => none }
def wideBackRow : OpenClaim := { program := "ytcehcbhinlpenaa", sum := "b388135b77acf1e4a8ae025b978cd3efc1e780a432745816bb07fbad15cc62fc", func := "gavelkind/gavelkindlaw02.WideBack", spec := "wideBack", inPlace := ["math/bits.Add64", "math/bits.Sub64"], unfollowed := true, recurses := true, apart := false }
def WideBackSaid : Prop := wideBackRow.holds Try.pinned (OpenSpec.ofChange wideBackSpec)

/-- ITS FALSE NEIGHBOUR: 'it returns false'. Refute it at one input. -/
def wideBackWrong : ChangeSpec := { name := "wideBack", fn := fun _ => fun
  | [d1, d2, d3] => { results := [.lit (.bool false)], args := [d1, d2, d3] }
  | _ => none }
def WideBackWrongFalsely : Prop := wideBackRow.holds Try.pinned (OpenSpec.ofChange wideBackWrong)

/-- 'gavelkindlaw02.WideProducts': WHATEVER THE INPUT: true; the input reads as it did. -/
def wideProductsSpec : ChangeSpec := { name := "wideProducts", fn := fun _ => fun
  | [d1, d2, d3] => { results := [.lit (.bool true)], args := [d1, d2, d3] }
  | _ => none }
def wideProductsRow : OpenClaim := { program := "ytcehcbhinlpenaa", sum := "b388135b77acf1e4a8ae025b978cd3efc1e780a432745816bb07fbad15cc62fc", func := "gavelkind/gavelkindlaw02.WideProducts", spec := "wideProducts", inPlace := ["math/bits.Sub64", "math/bits.Add64"], unfollowed := true, recurses := true, apart := false }
def WideProductsSaid : Prop := wideProductsRow.holds Try.pinned (OpenSpec.ofChange wideProductsSpec)

/-- ITS FALSE NEIGHBOUR: 'it returns false'. Refute it at one input. -/
def wideProductsWrong : ChangeSpec := { name := "wideProducts", fn := fun _ => fun
  | [d1, d2, d3] => { results := [.lit (.bool false)], args := [d1, d2, d3] }
  | _ => none }
def WideProductsWrongFalsely : Prop := wideProductsRow.holds Try.pinned (OpenSpec.ofChange wideProductsWrong)

/-- 'gavelkindlaw03.ScaleTells': WHATEVER THE INPUT: true; the input reads as it did. -/
def scaleTellsSpec : ChangeSpec := { name := "scaleTells", fn := fun _ => fun
  | [d1, d2] => { results := [.lit (.bool true)], args := [d1, d2] }
  | _ => none }
def scaleTellsRow : OpenClaim := { program := "ytcehcbhinlpenaa", sum := "b388135b77acf1e4a8ae025b978cd3efc1e780a432745816bb07fbad15cc62fc", func := "gavelkind/gavelkindlaw03.ScaleTells", spec := "scaleTells", inPlace := ["math/bits.Sub64", "math/bits.Add64"], unfollowed := true, recurses := true, named := ["math/bits.divideError", "math/bits.overflowError"], apart := false }
def ScaleTellsSaid : Prop := scaleTellsRow.holds Try.pinned (OpenSpec.ofChange scaleTellsSpec)

/-- ITS FALSE NEIGHBOUR: 'it returns false'. Refute it at one input. -/
def scaleTellsWrong : ChangeSpec := { name := "scaleTells", fn := fun _ => fun
  | [d1, d2] => { results := [.lit (.bool false)], args := [d1, d2] }
  | _ => none }
def ScaleTellsWrongFalsely : Prop := scaleTellsRow.holds Try.pinned (OpenSpec.ofChange scaleTellsWrong)

/-- 'gavelkindlaw03.ScaleScales': WHATEVER THE INPUT: true; the input reads as it did. -/
def scaleScalesSpec : ChangeSpec := { name := "scaleScales", fn := fun _ => fun
  | [d1, d2, d3] => { results := [.lit (.bool true)], args := [d1, d2, d3] }
  | _ => none }
def scaleScalesRow : OpenClaim := { program := "ytcehcbhinlpenaa", sum := "b388135b77acf1e4a8ae025b978cd3efc1e780a432745816bb07fbad15cc62fc", func := "gavelkind/gavelkindlaw03.ScaleScales", spec := "scaleScales", inPlace := ["math/bits.Sub64", "math/bits.Add64"], unfollowed := true, recurses := true, named := ["math/bits.divideError", "math/bits.overflowError"], apart := false }
def ScaleScalesSaid : Prop := scaleScalesRow.holds Try.pinned (OpenSpec.ofChange scaleScalesSpec)

/-- ITS FALSE NEIGHBOUR: 'it returns false'. Refute it at one input. -/
def scaleScalesWrong : ChangeSpec := { name := "scaleScales", fn := fun _ => fun
  | [d1, d2, d3] => { results := [.lit (.bool false)], args := [d1, d2, d3] }
  | _ => none }
def ScaleScalesWrongFalsely : Prop := scaleScalesRow.holds Try.pinned (OpenSpec.ofChange scaleScalesWrong)

/-- 'gavelkindlaw03.ScaleLeft': WHATEVER THE INPUT: true; the input reads as it did. -/
def scaleLeftSpec : ChangeSpec := { name := "scaleLeft", fn := fun _ => fun
  | [d1, d2] => { results := [.lit (.bool true)], args := [d1, d2] }
  | _ => none }
def scaleLeftRow : OpenClaim := { program := "ytcehcbhinlpenaa", sum := "b388135b77acf1e4a8ae025b978cd3efc1e780a432745816bb07fbad15cc62fc", func := "gavelkind/gavelkindlaw03.ScaleLeft", spec := "scaleLeft", inPlace := ["math/bits.Sub64", "math/bits.Add64"], unfollowed := true, recurses := true, named := ["math/bits.divideError", "math/bits.overflowError"], apart := false }
def ScaleLeftSaid : Prop := scaleLeftRow.holds Try.pinned (OpenSpec.ofChange scaleLeftSpec)

/-- ITS FALSE NEIGHBOUR: 'it returns false'. Refute it at one input. -/
def scaleLeftWrong : ChangeSpec := { name := "scaleLeft", fn := fun _ => fun
  | [d1, d2] => { results := [.lit (.bool false)], args := [d1, d2] }
  | _ => none }
def ScaleLeftWrongFalsely : Prop := scaleLeftRow.holds Try.pinned (OpenSpec.ofChange scaleLeftWrong)

/-- 'gavelkindlaw03.ScaleNear': WHATEVER THE INPUT: true; the input reads as it did. -/
def scaleNearSpec : ChangeSpec := { name := "scaleNear", fn := fun _ => fun
  | [d1, d2, d3] => { results := [.lit (.bool true)], args := [d1, d2, d3] }
  | _ => none }
def scaleNearRow : OpenClaim := { program := "ytcehcbhinlpenaa", sum := "b388135b77acf1e4a8ae025b978cd3efc1e780a432745816bb07fbad15cc62fc", func := "gavelkind/gavelkindlaw03.ScaleNear", spec := "scaleNear", inPlace := ["math/bits.Sub64", "math/bits.Add64"], unfollowed := true, recurses := true, named := ["math/bits.divideError", "math/bits.overflowError"], apart := false }
def ScaleNearSaid : Prop := scaleNearRow.holds Try.pinned (OpenSpec.ofChange scaleNearSpec)

/-- ITS FALSE NEIGHBOUR: 'it returns false'. Refute it at one input. -/
def scaleNearWrong : ChangeSpec := { name := "scaleNear", fn := fun _ => fun
  | [d1, d2, d3] => { results := [.lit (.bool false)], args := [d1, d2, d3] }
  | _ => none }
def ScaleNearWrongFalsely : Prop := scaleNearRow.holds Try.pinned (OpenSpec.ofChange scaleNearWrong)

/- THE SECOND FORM. 'bulk': how many values and letters a reading holds, each counted each time it is reached (what is shared counts as often as it is met; a slice's spare places count too). A statement '..UptoSaid' is the law's where the arguments, and the package variables that the reading takes, are together of bulk at most 1048576: NARROWER than '..Said'. Prove '..Said' where nothing that the law and all that it calls make is longer than what came in: it says more and counts as full. Else prove '..UptoSaid'. A law counts once. -/
mutual
def uptoBulk {H : Type} : DataW H → Nat
  | .lit (.string bytes) => bytes.length + 1
  | .lit _ => 1
  | .nil => 1
  | .ptr d => uptoBulk d + 1
  | .slice elems spare => uptoBulkAll elems + uptoBulkAll spare + 1
  | .agg parts => uptoBulkAll parts + 1
  | .iface _ d => uptoBulk d + 1
  | .map entries => uptoBulkEntries entries + 1
  | .held _ => 1
def uptoBulkAll {H : Type} : List (DataW H) → Nat
  | [] => 0
  | d :: r => uptoBulk d + uptoBulkAll r
def uptoBulkEntries {H : Type} : List (Lit × DataW H) → Nat
  | [] => 0
  | x :: r => uptoBulkEntry x + uptoBulkEntries r
def uptoBulkEntry {H : Type} : Lit × DataW H → Nat
  | (.string bytes, d) => bytes.length + uptoBulk d + 1
  | (_, d) => uptoBulk d + 1
 end
def uptoSmall : (H : Type) → List (DataW H) → Bool := fun _ ds => decide (uptoBulkAll ds ≤ 1048576)
def OpenSpec.upto (s : _root_.Go.ChangeSpec) : _root_.Go.OpenSpec := { _root_.Go.OpenSpec.ofChange s with cond := some uptoSmall }

/-- 'gavelkindlaw02.WideTells', WHERE WHAT IT READS IS OF BULK AT MOST 1048576: true; the input reads as it did. -/
def wideTellsUptoRow : OpenClaim := { program := "ytcehcbhinlpenaa", sum := "b388135b77acf1e4a8ae025b978cd3efc1e780a432745816bb07fbad15cc62fc", func := "gavelkind/gavelkindlaw02.WideTells", spec := "wideTells", inPlace := ["math/bits.Sub64", "math/bits.Add64"], unfollowed := true, recurses := true, apart := false, narrowed := true }
def WideTellsUptoSaid : Prop := wideTellsUptoRow.holds Try.pinned (OpenSpec.upto wideTellsSpec)

/-- 'gavelkindlaw02.WideSums', WHERE WHAT IT READS IS OF BULK AT MOST 1048576: true; the input reads as it did. -/
def wideSumsUptoRow : OpenClaim := { program := "ytcehcbhinlpenaa", sum := "b388135b77acf1e4a8ae025b978cd3efc1e780a432745816bb07fbad15cc62fc", func := "gavelkind/gavelkindlaw02.WideSums", spec := "wideSums", inPlace := ["math/bits.Add64", "math/bits.Sub64"], unfollowed := true, recurses := true, apart := false, narrowed := true }
def WideSumsUptoSaid : Prop := wideSumsUptoRow.holds Try.pinned (OpenSpec.upto wideSumsSpec)

/-- 'gavelkindlaw02.WideBack', WHERE WHAT IT READS IS OF BULK AT MOST 1048576: true; the input reads as it did. -/
def wideBackUptoRow : OpenClaim := { program := "ytcehcbhinlpenaa", sum := "b388135b77acf1e4a8ae025b978cd3efc1e780a432745816bb07fbad15cc62fc", func := "gavelkind/gavelkindlaw02.WideBack", spec := "wideBack", inPlace := ["math/bits.Add64", "math/bits.Sub64"], unfollowed := true, recurses := true, apart := false, narrowed := true }
def WideBackUptoSaid : Prop := wideBackUptoRow.holds Try.pinned (OpenSpec.upto wideBackSpec)

/-- 'gavelkindlaw02.WideProducts', WHERE WHAT IT READS IS OF BULK AT MOST 1048576: true; the input reads as it did. -/
def wideProductsUptoRow : OpenClaim := { program := "ytcehcbhinlpenaa", sum := "b388135b77acf1e4a8ae025b978cd3efc1e780a432745816bb07fbad15cc62fc", func := "gavelkind/gavelkindlaw02.WideProducts", spec := "wideProducts", inPlace := ["math/bits.Sub64", "math/bits.Add64"], unfollowed := true, recurses := true, apart := false, narrowed := true }
def WideProductsUptoSaid : Prop := wideProductsUptoRow.holds Try.pinned (OpenSpec.upto wideProductsSpec)

/-- 'gavelkindlaw03.ScaleTells', WHERE WHAT IT READS IS OF BULK AT MOST 1048576: true; the input reads as it did. -/
def scaleTellsUptoRow : OpenClaim := { program := "ytcehcbhinlpenaa", sum := "b388135b77acf1e4a8ae025b978cd3efc1e780a432745816bb07fbad15cc62fc", func := "gavelkind/gavelkindlaw03.ScaleTells", spec := "scaleTells", inPlace := ["math/bits.Sub64", "math/bits.Add64"], unfollowed := true, recurses := true, named := ["math/bits.divideError", "math/bits.overflowError"], apart := false, narrowed := true }
def ScaleTellsUptoSaid : Prop := scaleTellsUptoRow.holds Try.pinned (OpenSpec.upto scaleTellsSpec)

/-- 'gavelkindlaw03.ScaleScales', WHERE WHAT IT READS IS OF BULK AT MOST 1048576: true; the input reads as it did. -/
def scaleScalesUptoRow : OpenClaim := { program := "ytcehcbhinlpenaa", sum := "b388135b77acf1e4a8ae025b978cd3efc1e780a432745816bb07fbad15cc62fc", func := "gavelkind/gavelkindlaw03.ScaleScales", spec := "scaleScales", inPlace := ["math/bits.Sub64", "math/bits.Add64"], unfollowed := true, recurses := true, named := ["math/bits.divideError", "math/bits.overflowError"], apart := false, narrowed := true }
def ScaleScalesUptoSaid : Prop := scaleScalesUptoRow.holds Try.pinned (OpenSpec.upto scaleScalesSpec)

/-- 'gavelkindlaw03.ScaleLeft', WHERE WHAT IT READS IS OF BULK AT MOST 1048576: true; the input reads as it did. -/
def scaleLeftUptoRow : OpenClaim := { program := "ytcehcbhinlpenaa", sum := "b388135b77acf1e4a8ae025b978cd3efc1e780a432745816bb07fbad15cc62fc", func := "gavelkind/gavelkindlaw03.ScaleLeft", spec := "scaleLeft", inPlace := ["math/bits.Sub64", "math/bits.Add64"], unfollowed := true, recurses := true, named := ["math/bits.divideError", "math/bits.overflowError"], apart := false, narrowed := true }
def ScaleLeftUptoSaid : Prop := scaleLeftUptoRow.holds Try.pinned (OpenSpec.upto scaleLeftSpec)

/-- 'gavelkindlaw03.ScaleNear', WHERE WHAT IT READS IS OF BULK AT MOST 1048576: true; the input reads as it did. -/
def scaleNearUptoRow : OpenClaim := { program := "ytcehcbhinlpenaa", sum := "b388135b77acf1e4a8ae025b978cd3efc1e780a432745816bb07fbad15cc62fc", func := "gavelkind/gavelkindlaw03.ScaleNear", spec := "scaleNear", inPlace := ["math/bits.Sub64", "math/bits.Add64"], unfollowed := true, recurses := true, named := ["math/bits.divideError", "math/bits.overflowError"], apart := false, narrowed := true }
def ScaleNearUptoSaid : Prop := scaleNearUptoRow.holds Try.pinned (OpenSpec.upto scaleNearSpec)

end Rows
end Go.Proofs.Ytcehcbhinlpenaa
