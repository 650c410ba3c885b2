/-
  No cell of these rows narrows 'for every input' (looked for: loops, veiled, ifaces, maps, wideKeys, modest, calm, conditions, laid).
  DERIVED. THE GIVEN ROWS OF THIS SEAT. 2 by the template 'for every input the law returns true; each argument reads behind the call as it read before'; 0 by the template 'total and deterministic' (their statements: YtlngnmnbjkmagaaTotals.lean).
  GIVEN WITH THE SEED: the statements are not yours to turn. If you find one false, say at which input.
  Laid BY PROGRAM, IN A SANDBOX (cutbox-rows.mjs): the forced cells as the released guide's own fill.sh prints them over the translation 303de61e272e521f… (all of the seat's roots in one cut). By AI agents, Wed Nov 11 2026. No macro, syntax, notation, axiom, sorry.
-/
import Derived.Test.YtlngnmnbjkmagaaChecked
import GoSem.Claim
import GoSem.ClaimJoined
import GoSem.ClaimMapViews
import Derived.JoinedTies
import Derived.KernelRfl
namespace Go.Proofs.Ytlngnmnbjkmagaa
/- THE CELL 'sum', in the pinned program and in every row, IS THE sha256 OF THE DUMP (.gsa) THAT YtlngnmnbjkmagaaProg.lean LOADS. Nothing in Lean hashes anything: it is a label: what it is worth is what the hold of that sum in a sandbox is worth. -/
noncomputable def Try.pinned : Pinned := { name := "ytlngnmnbjkmagaa", sum := "303de61e272e521f84c66d0266007d933283f30a1a732160f8d36721adc78544", checked := Try.checked }
namespace Rows
def none {H : Type} : Left H := { results := [], args := [] }

/-- 'alidadelaw10.SerialForms': WHATEVER THE INPUT: true; the input reads as it did. -/
def serialFormsSpec : ChangeSpec := { name := "serialForms", fn := fun _ => fun
  | [d1, d2] => { results := [.lit (.bool true)], args := [d1, d2] }
  | _ => none }
def serialFormsRow : OpenClaim := { program := "ytlngnmnbjkmagaa", sum := "303de61e272e521f84c66d0266007d933283f30a1a732160f8d36721adc78544", func := "alidade/alidadelaw10.SerialForms", spec := "serialForms", apart := false }
def SerialFormsSaid : Prop := serialFormsRow.holds Try.pinned (OpenSpec.ofChange serialFormsSpec)

/-- ITS FALSE NEIGHBOUR: 'it returns false'. Refute it at one input. -/
def serialFormsWrong : ChangeSpec := { name := "serialForms", fn := fun _ => fun
  | [d1, d2] => { results := [.lit (.bool false)], args := [d1, d2] }
  | _ => none }
def SerialFormsWrongFalsely : Prop := serialFormsRow.holds Try.pinned (OpenSpec.ofChange serialFormsWrong)

/-- 'alidadelaw10.SerialOrder': WHATEVER THE INPUT: true; the input reads as it did. -/
def serialOrderSpec : ChangeSpec := { name := "serialOrder", fn := fun _ => fun
  | [d1, d2, d3] => { results := [.lit (.bool true)], args := [d1, d2, d3] }
  | _ => none }
def serialOrderRow : OpenClaim := { program := "ytlngnmnbjkmagaa", sum := "303de61e272e521f84c66d0266007d933283f30a1a732160f8d36721adc78544", func := "alidade/alidadelaw10.SerialOrder", spec := "serialOrder", apart := false }
def SerialOrderSaid : Prop := serialOrderRow.holds Try.pinned (OpenSpec.ofChange serialOrderSpec)

/-- ITS FALSE NEIGHBOUR: 'it returns false'. Refute it at one input. -/
def serialOrderWrong : ChangeSpec := { name := "serialOrder", fn := fun _ => fun
  | [d1, d2, d3] => { results := [.lit (.bool false)], args := [d1, d2, d3] }
  | _ => none }
def SerialOrderWrongFalsely : Prop := serialOrderRow.holds Try.pinned (OpenSpec.ofChange serialOrderWrong)

/- THE SECOND FORM. 'bulk': how many values and letters a reading holds, each counted each time it is reached (what is shared counts as often as it is met; a slice's spare places count too). A statement '..UptoSaid' is the law's where the arguments, and the package variables that the reading takes, are together of bulk at most 1048576: NARROWER than '..Said'. Prove '..Said' where nothing that the law and all that it calls make is longer than what came in: it says more and counts as full. Else prove '..UptoSaid'. A law counts once. -/
mutual
def uptoBulk {H : Type} : DataW H → Nat
  | .lit (.string bytes) => bytes.length + 1
  | .lit _ => 1
  | .nil => 1
  | .ptr d => uptoBulk d + 1
  | .slice elems spare => uptoBulkAll elems + uptoBulkAll spare + 1
  | .agg parts => uptoBulkAll parts + 1
  | .iface _ d => uptoBulk d + 1
  | .map entries => uptoBulkEntries entries + 1
  | .held _ => 1
def uptoBulkAll {H : Type} : List (DataW H) → Nat
  | [] => 0
  | d :: r => uptoBulk d + uptoBulkAll r
def uptoBulkEntries {H : Type} : List (Lit × DataW H) → Nat
  | [] => 0
  | x :: r => uptoBulkEntry x + uptoBulkEntries r
def uptoBulkEntry {H : Type} : Lit × DataW H → Nat
  | (.string bytes, d) => bytes.length + uptoBulk d + 1
  | (_, d) => uptoBulk d + 1
 end
def uptoSmall : (H : Type) → List (DataW H) → Bool := fun _ ds => decide (uptoBulkAll ds ≤ 1048576)
def OpenSpec.upto (s : _root_.Go.ChangeSpec) : _root_.Go.OpenSpec := { _root_.Go.OpenSpec.ofChange s with cond := some uptoSmall }

/-- 'alidadelaw10.SerialForms', WHERE WHAT IT READS IS OF BULK AT MOST 1048576: true; the input reads as it did. -/
def serialFormsUptoRow : OpenClaim := { program := "ytlngnmnbjkmagaa", sum := "303de61e272e521f84c66d0266007d933283f30a1a732160f8d36721adc78544", func := "alidade/alidadelaw10.SerialForms", spec := "serialForms", apart := false, narrowed := true }
def SerialFormsUptoSaid : Prop := serialFormsUptoRow.holds Try.pinned (OpenSpec.upto serialFormsSpec)

/-- 'alidadelaw10.SerialOrder', WHERE WHAT IT READS IS OF BULK AT MOST 1048576: true; the input reads as it did. -/
def serialOrderUptoRow : OpenClaim := { program := "ytlngnmnbjkmagaa", sum := "303de61e272e521f84c66d0266007d933283f30a1a732160f8d36721adc78544", func := "alidade/alidadelaw10.SerialOrder", spec := "serialOrder", apart := false, narrowed := true }
def SerialOrderUptoSaid : Prop := serialOrderUptoRow.holds Try.pinned (OpenSpec.upto serialOrderSpec)

end Rows
end Go.Proofs.Ytlngnmnbjkmagaa
