/-
  No cell of these rows narrows 'for every input' (looked for: loops, veiled, ifaces, maps, wideKeys, modest, calm, conditions, laid).
  DERIVED. THE GIVEN ROWS OF THIS SEAT. 17 by the template 'for every input the law returns true; each argument reads behind the call as it read before'; 0 by the template 'total and deterministic' (their statements: YtjlgocngbiapbaaTotals.lean).
  GIVEN WITH THE SEED: the statements are not yours to turn. If you find one false, say at which input.
  Laid BY PROGRAM, IN A SANDBOX (cutbox-rows.mjs): the forced cells as the released guide's own fill.sh prints them over the translation 126c8d5443d6fad6… (all of the seat's roots in one cut). By AI agents, Wed Nov 11 2026. No macro, syntax, notation, axiom, sorry.
-/
import Derived.Test.YtjlgocngbiapbaaChecked
import GoSem.Claim
import GoSem.ClaimJoined
import GoSem.ClaimMapViews
import Derived.JoinedTies
import Derived.KernelRfl
namespace Go.Proofs.Ytjlgocngbiapbaa
/- THE CELL 'sum', in the pinned program and in every row, IS THE sha256 OF THE DUMP (.gsa) THAT YtjlgocngbiapbaaProg.lean LOADS. Nothing in Lean hashes anything: it is a label: what it is worth is what the hold of that sum in a sandbox is worth. -/
noncomputable def Try.pinned : Pinned := { name := "ytjlgocngbiapbaa", sum := "126c8d5443d6fad67e391e2e0419b4b460a66d17155b62c6b1b71c1a665012dc", checked := Try.checked }
namespace Rows
def none {H : Type} : Left H := { results := [], args := [] }

/-- 'conventiclelaw03.LotEach': WHATEVER THE INPUT: true; the input reads as it did. -/
def lotEachSpec : ChangeSpec := { name := "lotEach", fn := fun _ => fun
  | [d1, d2, d3] => { results := [.lit (.bool true)], args := [d1, d2, d3] }
  | _ => none }
def lotEachRow : OpenClaim := { program := "ytjlgocngbiapbaa", sum := "126c8d5443d6fad67e391e2e0419b4b460a66d17155b62c6b1b71c1a665012dc", func := "conventicle/conventiclelaw03.LotEach", spec := "lotEach", unfollowed := true, recurses := true, plainKeys := false, apart := false }
def LotEachSaid : Prop := lotEachRow.holds Try.pinned (OpenSpec.ofChange lotEachSpec)

/-- ITS FALSE NEIGHBOUR: 'it returns false'. Refute it at one input. -/
def lotEachWrong : ChangeSpec := { name := "lotEach", fn := fun _ => fun
  | [d1, d2, d3] => { results := [.lit (.bool false)], args := [d1, d2, d3] }
  | _ => none }
def LotEachWrongFalsely : Prop := lotEachRow.holds Try.pinned (OpenSpec.ofChange lotEachWrong)

/-- 'conventiclelaw03.LotRange': WHATEVER THE INPUT: true; the input reads as it did. -/
def lotRangeSpec : ChangeSpec := { name := "lotRange", fn := fun _ => fun
  | [d1, d2] => { results := [.lit (.bool true)], args := [d1, d2] }
  | _ => none }
def lotRangeRow : OpenClaim := { program := "ytjlgocngbiapbaa", sum := "126c8d5443d6fad67e391e2e0419b4b460a66d17155b62c6b1b71c1a665012dc", func := "conventicle/conventiclelaw03.LotRange", spec := "lotRange", unfollowed := true, recurses := true, plainKeys := false, apart := false }
def LotRangeSaid : Prop := lotRangeRow.holds Try.pinned (OpenSpec.ofChange lotRangeSpec)

/-- ITS FALSE NEIGHBOUR: 'it returns false'. Refute it at one input. -/
def lotRangeWrong : ChangeSpec := { name := "lotRange", fn := fun _ => fun
  | [d1, d2] => { results := [.lit (.bool false)], args := [d1, d2] }
  | _ => none }
def LotRangeWrongFalsely : Prop := lotRangeRow.holds Try.pinned (OpenSpec.ofChange lotRangeWrong)

/-- 'conventiclelaw03.LotSame': WHATEVER THE INPUT: true; the input reads as it did. -/
def lotSameSpec : ChangeSpec := { name := "lotSame", fn := fun _ => fun
  | [d1, d2] => { results := [.lit (.bool true)], args := [d1, d2] }
  | _ => none }
def lotSameRow : OpenClaim := { program := "ytjlgocngbiapbaa", sum := "126c8d5443d6fad67e391e2e0419b4b460a66d17155b62c6b1b71c1a665012dc", func := "conventicle/conventiclelaw03.LotSame", spec := "lotSame", unfollowed := true, recurses := true, plainKeys := false, apart := false }
def LotSameSaid : Prop := lotSameRow.holds Try.pinned (OpenSpec.ofChange lotSameSpec)

/-- ITS FALSE NEIGHBOUR: 'it returns false'. Refute it at one input. -/
def lotSameWrong : ChangeSpec := { name := "lotSame", fn := fun _ => fun
  | [d1, d2] => { results := [.lit (.bool false)], args := [d1, d2] }
  | _ => none }
def LotSameWrongFalsely : Prop := lotSameRow.holds Try.pinned (OpenSpec.ofChange lotSameWrong)

/-- 'conventiclelaw03.LotKeeps': WHATEVER THE INPUT: true; the input reads as it did. -/
def lotKeepsSpec : ChangeSpec := { name := "lotKeeps", fn := fun _ => fun
  | [d1, d2, d3] => { results := [.lit (.bool true)], args := [d1, d2, d3] }
  | _ => none }
def lotKeepsRow : OpenClaim := { program := "ytjlgocngbiapbaa", sum := "126c8d5443d6fad67e391e2e0419b4b460a66d17155b62c6b1b71c1a665012dc", func := "conventicle/conventiclelaw03.LotKeeps", spec := "lotKeeps", unfollowed := true, recurses := true, plainKeys := false, apart := false }
def LotKeepsSaid : Prop := lotKeepsRow.holds Try.pinned (OpenSpec.ofChange lotKeepsSpec)

/-- ITS FALSE NEIGHBOUR: 'it returns false'. Refute it at one input. -/
def lotKeepsWrong : ChangeSpec := { name := "lotKeeps", fn := fun _ => fun
  | [d1, d2, d3] => { results := [.lit (.bool false)], args := [d1, d2, d3] }
  | _ => none }
def LotKeepsWrongFalsely : Prop := lotKeepsRow.holds Try.pinned (OpenSpec.ofChange lotKeepsWrong)

/-- 'conventiclelaw03.LotActs': WHATEVER THE INPUT: true; the input reads as it did. -/
def lotActsSpec : ChangeSpec := { name := "lotActs", fn := fun _ => fun
  | [d1, d2] => { results := [.lit (.bool true)], args := [d1, d2] }
  | _ => none }
def lotActsRow : OpenClaim := { program := "ytjlgocngbiapbaa", sum := "126c8d5443d6fad67e391e2e0419b4b460a66d17155b62c6b1b71c1a665012dc", func := "conventicle/conventiclelaw03.LotActs", spec := "lotActs", unfollowed := true, recurses := true, plainKeys := false, apart := false }
def LotActsSaid : Prop := lotActsRow.holds Try.pinned (OpenSpec.ofChange lotActsSpec)

/-- ITS FALSE NEIGHBOUR: 'it returns false'. Refute it at one input. -/
def lotActsWrong : ChangeSpec := { name := "lotActs", fn := fun _ => fun
  | [d1, d2] => { results := [.lit (.bool false)], args := [d1, d2] }
  | _ => none }
def LotActsWrongFalsely : Prop := lotActsRow.holds Try.pinned (OpenSpec.ofChange lotActsWrong)

/-- 'conventiclelaw03.LotSome': WHATEVER THE INPUT: true; the input reads as it did. -/
def lotSomeSpec : ChangeSpec := { name := "lotSome", fn := fun _ => fun
  | [d1, d2, d3] => { results := [.lit (.bool true)], args := [d1, d2, d3] }
  | _ => none }
def lotSomeRow : OpenClaim := { program := "ytjlgocngbiapbaa", sum := "126c8d5443d6fad67e391e2e0419b4b460a66d17155b62c6b1b71c1a665012dc", func := "conventicle/conventiclelaw03.LotSome", spec := "lotSome", unfollowed := true, recurses := true, plainKeys := false, apart := false }
def LotSomeSaid : Prop := lotSomeRow.holds Try.pinned (OpenSpec.ofChange lotSomeSpec)

/-- ITS FALSE NEIGHBOUR: 'it returns false'. Refute it at one input. -/
def lotSomeWrong : ChangeSpec := { name := "lotSome", fn := fun _ => fun
  | [d1, d2, d3] => { results := [.lit (.bool false)], args := [d1, d2, d3] }
  | _ => none }
def LotSomeWrongFalsely : Prop := lotSomeRow.holds Try.pinned (OpenSpec.ofChange lotSomeWrong)

/-- 'conventiclelaw18.OrderOnce': WHATEVER THE INPUT: true; the input reads as it did. -/
def orderOnceSpec : ChangeSpec := { name := "orderOnce", fn := fun _ => fun
  | [d1, d2] => { results := [.lit (.bool true)], args := [d1, d2] }
  | _ => none }
def orderOnceRow : OpenClaim := { program := "ytjlgocngbiapbaa", sum := "126c8d5443d6fad67e391e2e0419b4b460a66d17155b62c6b1b71c1a665012dc", func := "conventicle/conventiclelaw18.OrderOnce", spec := "orderOnce", plainKeys := false, apart := false }
def OrderOnceSaid : Prop := orderOnceRow.holds Try.pinned (OpenSpec.ofChange orderOnceSpec)

/-- ITS FALSE NEIGHBOUR: 'it returns false'. Refute it at one input. -/
def orderOnceWrong : ChangeSpec := { name := "orderOnce", fn := fun _ => fun
  | [d1, d2] => { results := [.lit (.bool false)], args := [d1, d2] }
  | _ => none }
def OrderOnceWrongFalsely : Prop := orderOnceRow.holds Try.pinned (OpenSpec.ofChange orderOnceWrong)

/-- 'conventiclelaw18.OrderNumbers': WHATEVER THE INPUT: true; the input reads as it did. -/
def orderNumbersSpec : ChangeSpec := { name := "orderNumbers", fn := fun _ => fun
  | [d1, d2, d3, d4, d5] => { results := [.lit (.bool true)], args := [d1, d2, d3, d4, d5] }
  | _ => none }
def orderNumbersRow : OpenClaim := { program := "ytjlgocngbiapbaa", sum := "126c8d5443d6fad67e391e2e0419b4b460a66d17155b62c6b1b71c1a665012dc", func := "conventicle/conventiclelaw18.OrderNumbers", spec := "orderNumbers", plainKeys := false, apart := false }
def OrderNumbersSaid : Prop := orderNumbersRow.holds Try.pinned (OpenSpec.ofChange orderNumbersSpec)

/-- ITS FALSE NEIGHBOUR: 'it returns false'. Refute it at one input. -/
def orderNumbersWrong : ChangeSpec := { name := "orderNumbers", fn := fun _ => fun
  | [d1, d2, d3, d4, d5] => { results := [.lit (.bool false)], args := [d1, d2, d3, d4, d5] }
  | _ => none }
def OrderNumbersWrongFalsely : Prop := orderNumbersRow.holds Try.pinned (OpenSpec.ofChange orderNumbersWrong)

/-- 'conventiclelaw18.OrderParts': WHATEVER THE INPUT: true; the input reads as it did. -/
def orderPartsSpec : ChangeSpec := { name := "orderParts", fn := fun _ => fun
  | [d1, d2] => { results := [.lit (.bool true)], args := [d1, d2] }
  | _ => none }
def orderPartsRow : OpenClaim := { program := "ytjlgocngbiapbaa", sum := "126c8d5443d6fad67e391e2e0419b4b460a66d17155b62c6b1b71c1a665012dc", func := "conventicle/conventiclelaw18.OrderParts", spec := "orderParts", unfollowed := true, recurses := true, plainKeys := false, apart := false }
def OrderPartsSaid : Prop := orderPartsRow.holds Try.pinned (OpenSpec.ofChange orderPartsSpec)

/-- ITS FALSE NEIGHBOUR: 'it returns false'. Refute it at one input. -/
def orderPartsWrong : ChangeSpec := { name := "orderParts", fn := fun _ => fun
  | [d1, d2] => { results := [.lit (.bool false)], args := [d1, d2] }
  | _ => none }
def OrderPartsWrongFalsely : Prop := orderPartsRow.holds Try.pinned (OpenSpec.ofChange orderPartsWrong)

/-- 'conventiclelaw18.OrderDesk': WHATEVER THE INPUT: true; the input reads as it did. -/
def orderDeskSpec : ChangeSpec := { name := "orderDesk", fn := fun _ => fun
  | [d1, d2, d3] => { results := [.lit (.bool true)], args := [d1, d2, d3] }
  | _ => none }
def orderDeskRow : OpenClaim := { program := "ytjlgocngbiapbaa", sum := "126c8d5443d6fad67e391e2e0419b4b460a66d17155b62c6b1b71c1a665012dc", func := "conventicle/conventiclelaw18.OrderDesk", spec := "orderDesk", plainKeys := false, apart := false }
def OrderDeskSaid : Prop := orderDeskRow.holds Try.pinned (OpenSpec.ofChange orderDeskSpec)

/-- ITS FALSE NEIGHBOUR: 'it returns false'. Refute it at one input. -/
def orderDeskWrong : ChangeSpec := { name := "orderDesk", fn := fun _ => fun
  | [d1, d2, d3] => { results := [.lit (.bool false)], args := [d1, d2, d3] }
  | _ => none }
def OrderDeskWrongFalsely : Prop := orderDeskRow.holds Try.pinned (OpenSpec.ofChange orderDeskWrong)

/-- 'conventiclelaw18.OrderWindow': WHATEVER THE INPUT: true; the input reads as it did. -/
def orderWindowSpec : ChangeSpec := { name := "orderWindow", fn := fun _ => fun
  | [d1, d2] => { results := [.lit (.bool true)], args := [d1, d2] }
  | _ => none }
def orderWindowRow : OpenClaim := { program := "ytjlgocngbiapbaa", sum := "126c8d5443d6fad67e391e2e0419b4b460a66d17155b62c6b1b71c1a665012dc", func := "conventicle/conventiclelaw18.OrderWindow", spec := "orderWindow", plainKeys := false, apart := false }
def OrderWindowSaid : Prop := orderWindowRow.holds Try.pinned (OpenSpec.ofChange orderWindowSpec)

/-- ITS FALSE NEIGHBOUR: 'it returns false'. Refute it at one input. -/
def orderWindowWrong : ChangeSpec := { name := "orderWindow", fn := fun _ => fun
  | [d1, d2] => { results := [.lit (.bool false)], args := [d1, d2] }
  | _ => none }
def OrderWindowWrongFalsely : Prop := orderWindowRow.holds Try.pinned (OpenSpec.ofChange orderWindowWrong)

/-- 'conventiclelaw18.OrderWaits': WHATEVER THE INPUT: true; the input reads as it did. -/
def orderWaitsSpec : ChangeSpec := { name := "orderWaits", fn := fun _ => fun
  | [d1, d2] => { results := [.lit (.bool true)], args := [d1, d2] }
  | _ => none }
def orderWaitsRow : OpenClaim := { program := "ytjlgocngbiapbaa", sum := "126c8d5443d6fad67e391e2e0419b4b460a66d17155b62c6b1b71c1a665012dc", func := "conventicle/conventiclelaw18.OrderWaits", spec := "orderWaits", plainKeys := false, apart := false }
def OrderWaitsSaid : Prop := orderWaitsRow.holds Try.pinned (OpenSpec.ofChange orderWaitsSpec)

/-- ITS FALSE NEIGHBOUR: 'it returns false'. Refute it at one input. -/
def orderWaitsWrong : ChangeSpec := { name := "orderWaits", fn := fun _ => fun
  | [d1, d2] => { results := [.lit (.bool false)], args := [d1, d2] }
  | _ => none }
def OrderWaitsWrongFalsely : Prop := orderWaitsRow.holds Try.pinned (OpenSpec.ofChange orderWaitsWrong)

/-- 'conventiclelaw09.RoundFair': WHATEVER THE INPUT: true; the input reads as it did. -/
def roundFairSpec : ChangeSpec := { name := "roundFair", fn := fun _ => fun
  | [d1, d2, d3] => { results := [.lit (.bool true)], args := [d1, d2, d3] }
  | _ => none }
def roundFairRow : OpenClaim := { program := "ytjlgocngbiapbaa", sum := "126c8d5443d6fad67e391e2e0419b4b460a66d17155b62c6b1b71c1a665012dc", func := "conventicle/conventiclelaw09.RoundFair", spec := "roundFair", unfollowed := true, recurses := true, plainKeys := false, apart := false }
def RoundFairSaid : Prop := roundFairRow.holds Try.pinned (OpenSpec.ofChange roundFairSpec)

/-- ITS FALSE NEIGHBOUR: 'it returns false'. Refute it at one input. -/
def roundFairWrong : ChangeSpec := { name := "roundFair", fn := fun _ => fun
  | [d1, d2, d3] => { results := [.lit (.bool false)], args := [d1, d2, d3] }
  | _ => none }
def RoundFairWrongFalsely : Prop := roundFairRow.holds Try.pinned (OpenSpec.ofChange roundFairWrong)

/-- 'conventiclelaw09.RoundNone': WHATEVER THE INPUT: true; the input reads as it did. -/
def roundNoneSpec : ChangeSpec := { name := "roundNone", fn := fun _ => fun
  | [d1, d2, d3] => { results := [.lit (.bool true)], args := [d1, d2, d3] }
  | _ => none }
def roundNoneRow : OpenClaim := { program := "ytjlgocngbiapbaa", sum := "126c8d5443d6fad67e391e2e0419b4b460a66d17155b62c6b1b71c1a665012dc", func := "conventicle/conventiclelaw09.RoundNone", spec := "roundNone", unfollowed := true, recurses := true, plainKeys := false, apart := false }
def RoundNoneSaid : Prop := roundNoneRow.holds Try.pinned (OpenSpec.ofChange roundNoneSpec)

/-- ITS FALSE NEIGHBOUR: 'it returns false'. Refute it at one input. -/
def roundNoneWrong : ChangeSpec := { name := "roundNone", fn := fun _ => fun
  | [d1, d2, d3] => { results := [.lit (.bool false)], args := [d1, d2, d3] }
  | _ => none }
def RoundNoneWrongFalsely : Prop := roundNoneRow.holds Try.pinned (OpenSpec.ofChange roundNoneWrong)

/-- 'conventiclelaw09.RoundHelps': WHATEVER THE INPUT: true; the input reads as it did. -/
def roundHelpsSpec : ChangeSpec := { name := "roundHelps", fn := fun _ => fun
  | [d1, d2, d3, d4] => { results := [.lit (.bool true)], args := [d1, d2, d3, d4] }
  | _ => none }
def roundHelpsRow : OpenClaim := { program := "ytjlgocngbiapbaa", sum := "126c8d5443d6fad67e391e2e0419b4b460a66d17155b62c6b1b71c1a665012dc", func := "conventicle/conventiclelaw09.RoundHelps", spec := "roundHelps", unfollowed := true, recurses := true, plainKeys := false, apart := false }
def RoundHelpsSaid : Prop := roundHelpsRow.holds Try.pinned (OpenSpec.ofChange roundHelpsSpec)

/-- ITS FALSE NEIGHBOUR: 'it returns false'. Refute it at one input. -/
def roundHelpsWrong : ChangeSpec := { name := "roundHelps", fn := fun _ => fun
  | [d1, d2, d3, d4] => { results := [.lit (.bool false)], args := [d1, d2, d3, d4] }
  | _ => none }
def RoundHelpsWrongFalsely : Prop := roundHelpsRow.holds Try.pinned (OpenSpec.ofChange roundHelpsWrong)

/-- 'conventiclelaw09.RoundJoins': WHATEVER THE INPUT: true; the input reads as it did. -/
def roundJoinsSpec : ChangeSpec := { name := "roundJoins", fn := fun _ => fun
  | [d1, d2, d3] => { results := [.lit (.bool true)], args := [d1, d2, d3] }
  | _ => none }
def roundJoinsRow : OpenClaim := { program := "ytjlgocngbiapbaa", sum := "126c8d5443d6fad67e391e2e0419b4b460a66d17155b62c6b1b71c1a665012dc", func := "conventicle/conventiclelaw09.RoundJoins", spec := "roundJoins", inPlace := ["slices.overlaps[int]"], unfollowed := true, recurses := true, plainKeys := false, apart := false }
def RoundJoinsSaid : Prop := roundJoinsRow.holds Try.pinned (OpenSpec.ofChange roundJoinsSpec)

/-- ITS FALSE NEIGHBOUR: 'it returns false'. Refute it at one input. -/
def roundJoinsWrong : ChangeSpec := { name := "roundJoins", fn := fun _ => fun
  | [d1, d2, d3] => { results := [.lit (.bool false)], args := [d1, d2, d3] }
  | _ => none }
def RoundJoinsWrongFalsely : Prop := roundJoinsRow.holds Try.pinned (OpenSpec.ofChange roundJoinsWrong)

/-- 'conventiclelaw09.RoundActs': WHATEVER THE INPUT: true; the input reads as it did. -/
def roundActsSpec : ChangeSpec := { name := "roundActs", fn := fun _ => fun
  | [d1, d2] => { results := [.lit (.bool true)], args := [d1, d2] }
  | _ => none }
def roundActsRow : OpenClaim := { program := "ytjlgocngbiapbaa", sum := "126c8d5443d6fad67e391e2e0419b4b460a66d17155b62c6b1b71c1a665012dc", func := "conventicle/conventiclelaw09.RoundActs", spec := "roundActs", inPlace := ["slices.overlaps[int]"], unfollowed := true, recurses := true, plainKeys := false, apart := false }
def RoundActsSaid : Prop := roundActsRow.holds Try.pinned (OpenSpec.ofChange roundActsSpec)

/-- ITS FALSE NEIGHBOUR: 'it returns false'. Refute it at one input. -/
def roundActsWrong : ChangeSpec := { name := "roundActs", fn := fun _ => fun
  | [d1, d2] => { results := [.lit (.bool false)], args := [d1, d2] }
  | _ => none }
def RoundActsWrongFalsely : Prop := roundActsRow.holds Try.pinned (OpenSpec.ofChange roundActsWrong)

/- THE SECOND FORM. 'bulk': how many values and letters a reading holds, each counted each time it is reached (what is shared counts as often as it is met; a slice's spare places count too). A statement '..UptoSaid' is the law's where the arguments, and the package variables that the reading takes, are together of bulk at most 1048576: NARROWER than '..Said'. Prove '..Said' where nothing that the law and all that it calls make is longer than what came in: it says more and counts as full. Else prove '..UptoSaid'. A law counts once. -/
mutual
def uptoBulk {H : Type} : DataW H → Nat
  | .lit (.string bytes) => bytes.length + 1
  | .lit _ => 1
  | .nil => 1
  | .ptr d => uptoBulk d + 1
  | .slice elems spare => uptoBulkAll elems + uptoBulkAll spare + 1
  | .agg parts => uptoBulkAll parts + 1
  | .iface _ d => uptoBulk d + 1
  | .map entries => uptoBulkEntries entries + 1
  | .held _ => 1
def uptoBulkAll {H : Type} : List (DataW H) → Nat
  | [] => 0
  | d :: r => uptoBulk d + uptoBulkAll r
def uptoBulkEntries {H : Type} : List (Lit × DataW H) → Nat
  | [] => 0
  | x :: r => uptoBulkEntry x + uptoBulkEntries r
def uptoBulkEntry {H : Type} : Lit × DataW H → Nat
  | (.string bytes, d) => bytes.length + uptoBulk d + 1
  | (_, d) => uptoBulk d + 1
 end
def uptoSmall : (H : Type) → List (DataW H) → Bool := fun _ ds => decide (uptoBulkAll ds ≤ 1048576)
def OpenSpec.upto (s : _root_.Go.ChangeSpec) : _root_.Go.OpenSpec := { _root_.Go.OpenSpec.ofChange s with cond := some uptoSmall }

/-- 'conventiclelaw03.LotEach', WHERE WHAT IT READS IS OF BULK AT MOST 1048576: true; the input reads as it did. -/
def lotEachUptoRow : OpenClaim := { program := "ytjlgocngbiapbaa", sum := "126c8d5443d6fad67e391e2e0419b4b460a66d17155b62c6b1b71c1a665012dc", func := "conventicle/conventiclelaw03.LotEach", spec := "lotEach", unfollowed := true, recurses := true, plainKeys := false, apart := false, narrowed := true }
def LotEachUptoSaid : Prop := lotEachUptoRow.holds Try.pinned (OpenSpec.upto lotEachSpec)

/-- 'conventiclelaw03.LotRange', WHERE WHAT IT READS IS OF BULK AT MOST 1048576: true; the input reads as it did. -/
def lotRangeUptoRow : OpenClaim := { program := "ytjlgocngbiapbaa", sum := "126c8d5443d6fad67e391e2e0419b4b460a66d17155b62c6b1b71c1a665012dc", func := "conventicle/conventiclelaw03.LotRange", spec := "lotRange", unfollowed := true, recurses := true, plainKeys := false, apart := false, narrowed := true }
def LotRangeUptoSaid : Prop := lotRangeUptoRow.holds Try.pinned (OpenSpec.upto lotRangeSpec)

/-- 'conventiclelaw03.LotSame', WHERE WHAT IT READS IS OF BULK AT MOST 1048576: true; the input reads as it did. -/
def lotSameUptoRow : OpenClaim := { program := "ytjlgocngbiapbaa", sum := "126c8d5443d6fad67e391e2e0419b4b460a66d17155b62c6b1b71c1a665012dc", func := "conventicle/conventiclelaw03.LotSame", spec := "lotSame", unfollowed := true, recurses := true, plainKeys := false, apart := false, narrowed := true }
def LotSameUptoSaid : Prop := lotSameUptoRow.holds Try.pinned (OpenSpec.upto lotSameSpec)

/-- 'conventiclelaw03.LotKeeps', WHERE WHAT IT READS IS OF BULK AT MOST 1048576: true; the input reads as it did. -/
def lotKeepsUptoRow : OpenClaim := { program := "ytjlgocngbiapbaa", sum := "126c8d5443d6fad67e391e2e0419b4b460a66d17155b62c6b1b71c1a665012dc", func := "conventicle/conventiclelaw03.LotKeeps", spec := "lotKeeps", unfollowed := true, recurses := true, plainKeys := false, apart := false, narrowed := true }
def LotKeepsUptoSaid : Prop := lotKeepsUptoRow.holds Try.pinned (OpenSpec.upto lotKeepsSpec)

/-- 'conventiclelaw03.LotActs', WHERE WHAT IT READS IS OF BULK AT MOST 1048576: true; the input reads as it did. -/
def lotActsUptoRow : OpenClaim := { program := "ytjlgocngbiapbaa", sum := "126c8d5443d6fad67e391e2e0419b4b460a66d17155b62c6b1b71c1a665012dc", func := "conventicle/conventiclelaw03.LotActs", spec := "lotActs", unfollowed := true, recurses := true, plainKeys := false, apart := false, narrowed := true }
def LotActsUptoSaid : Prop := lotActsUptoRow.holds Try.pinned (OpenSpec.upto lotActsSpec)

/-- 'conventiclelaw03.LotSome', WHERE WHAT IT READS IS OF BULK AT MOST 1048576: true; the input reads as it did. -/
def lotSomeUptoRow : OpenClaim := { program := "ytjlgocngbiapbaa", sum := "126c8d5443d6fad67e391e2e0419b4b460a66d17155b62c6b1b71c1a665012dc", func := "conventicle/conventiclelaw03.LotSome", spec := "lotSome", unfollowed := true, recurses := true, plainKeys := false, apart := false, narrowed := true }
def LotSomeUptoSaid : Prop := lotSomeUptoRow.holds Try.pinned (OpenSpec.upto lotSomeSpec)

/-- 'conventiclelaw18.OrderOnce', WHERE WHAT IT READS IS OF BULK AT MOST 1048576: true; the input reads as it did. -/
def orderOnceUptoRow : OpenClaim := { program := "ytjlgocngbiapbaa", sum := "126c8d5443d6fad67e391e2e0419b4b460a66d17155b62c6b1b71c1a665012dc", func := "conventicle/conventiclelaw18.OrderOnce", spec := "orderOnce", plainKeys := false, apart := false, narrowed := true }
def OrderOnceUptoSaid : Prop := orderOnceUptoRow.holds Try.pinned (OpenSpec.upto orderOnceSpec)

/-- 'conventiclelaw18.OrderNumbers', WHERE WHAT IT READS IS OF BULK AT MOST 1048576: true; the input reads as it did. -/
def orderNumbersUptoRow : OpenClaim := { program := "ytjlgocngbiapbaa", sum := "126c8d5443d6fad67e391e2e0419b4b460a66d17155b62c6b1b71c1a665012dc", func := "conventicle/conventiclelaw18.OrderNumbers", spec := "orderNumbers", plainKeys := false, apart := false, narrowed := true }
def OrderNumbersUptoSaid : Prop := orderNumbersUptoRow.holds Try.pinned (OpenSpec.upto orderNumbersSpec)

/-- 'conventiclelaw18.OrderParts', WHERE WHAT IT READS IS OF BULK AT MOST 1048576: true; the input reads as it did. -/
def orderPartsUptoRow : OpenClaim := { program := "ytjlgocngbiapbaa", sum := "126c8d5443d6fad67e391e2e0419b4b460a66d17155b62c6b1b71c1a665012dc", func := "conventicle/conventiclelaw18.OrderParts", spec := "orderParts", unfollowed := true, recurses := true, plainKeys := false, apart := false, narrowed := true }
def OrderPartsUptoSaid : Prop := orderPartsUptoRow.holds Try.pinned (OpenSpec.upto orderPartsSpec)

/-- 'conventiclelaw18.OrderDesk', WHERE WHAT IT READS IS OF BULK AT MOST 1048576: true; the input reads as it did. -/
def orderDeskUptoRow : OpenClaim := { program := "ytjlgocngbiapbaa", sum := "126c8d5443d6fad67e391e2e0419b4b460a66d17155b62c6b1b71c1a665012dc", func := "conventicle/conventiclelaw18.OrderDesk", spec := "orderDesk", plainKeys := false, apart := false, narrowed := true }
def OrderDeskUptoSaid : Prop := orderDeskUptoRow.holds Try.pinned (OpenSpec.upto orderDeskSpec)

/-- 'conventiclelaw18.OrderWindow', WHERE WHAT IT READS IS OF BULK AT MOST 1048576: true; the input reads as it did. -/
def orderWindowUptoRow : OpenClaim := { program := "ytjlgocngbiapbaa", sum := "126c8d5443d6fad67e391e2e0419b4b460a66d17155b62c6b1b71c1a665012dc", func := "conventicle/conventiclelaw18.OrderWindow", spec := "orderWindow", plainKeys := false, apart := false, narrowed := true }
def OrderWindowUptoSaid : Prop := orderWindowUptoRow.holds Try.pinned (OpenSpec.upto orderWindowSpec)

/-- 'conventiclelaw18.OrderWaits', WHERE WHAT IT READS IS OF BULK AT MOST 1048576: true; the input reads as it did. -/
def orderWaitsUptoRow : OpenClaim := { program := "ytjlgocngbiapbaa", sum := "126c8d5443d6fad67e391e2e0419b4b460a66d17155b62c6b1b71c1a665012dc", func := "conventicle/conventiclelaw18.OrderWaits", spec := "orderWaits", plainKeys := false, apart := false, narrowed := true }
def OrderWaitsUptoSaid : Prop := orderWaitsUptoRow.holds Try.pinned (OpenSpec.upto orderWaitsSpec)

/-- 'conventiclelaw09.RoundFair', WHERE WHAT IT READS IS OF BULK AT MOST 1048576: true; the input reads as it did. -/
def roundFairUptoRow : OpenClaim := { program := "ytjlgocngbiapbaa", sum := "126c8d5443d6fad67e391e2e0419b4b460a66d17155b62c6b1b71c1a665012dc", func := "conventicle/conventiclelaw09.RoundFair", spec := "roundFair", unfollowed := true, recurses := true, plainKeys := false, apart := false, narrowed := true }
def RoundFairUptoSaid : Prop := roundFairUptoRow.holds Try.pinned (OpenSpec.upto roundFairSpec)

/-- 'conventiclelaw09.RoundNone', WHERE WHAT IT READS IS OF BULK AT MOST 1048576: true; the input reads as it did. -/
def roundNoneUptoRow : OpenClaim := { program := "ytjlgocngbiapbaa", sum := "126c8d5443d6fad67e391e2e0419b4b460a66d17155b62c6b1b71c1a665012dc", func := "conventicle/conventiclelaw09.RoundNone", spec := "roundNone", unfollowed := true, recurses := true, plainKeys := false, apart := false, narrowed := true }
def RoundNoneUptoSaid : Prop := roundNoneUptoRow.holds Try.pinned (OpenSpec.upto roundNoneSpec)

/-- 'conventiclelaw09.RoundHelps', WHERE WHAT IT READS IS OF BULK AT MOST 1048576: true; the input reads as it did. -/
def roundHelpsUptoRow : OpenClaim := { program := "ytjlgocngbiapbaa", sum := "126c8d5443d6fad67e391e2e0419b4b460a66d17155b62c6b1b71c1a665012dc", func := "conventicle/conventiclelaw09.RoundHelps", spec := "roundHelps", unfollowed := true, recurses := true, plainKeys := false, apart := false, narrowed := true }
def RoundHelpsUptoSaid : Prop := roundHelpsUptoRow.holds Try.pinned (OpenSpec.upto roundHelpsSpec)

/-- 'conventiclelaw09.RoundJoins', WHERE WHAT IT READS IS OF BULK AT MOST 1048576: true; the input reads as it did. -/
def roundJoinsUptoRow : OpenClaim := { program := "ytjlgocngbiapbaa", sum := "126c8d5443d6fad67e391e2e0419b4b460a66d17155b62c6b1b71c1a665012dc", func := "conventicle/conventiclelaw09.RoundJoins", spec := "roundJoins", inPlace := ["slices.overlaps[int]"], unfollowed := true, recurses := true, plainKeys := false, apart := false, narrowed := true }
def RoundJoinsUptoSaid : Prop := roundJoinsUptoRow.holds Try.pinned (OpenSpec.upto roundJoinsSpec)

/-- 'conventiclelaw09.RoundActs', WHERE WHAT IT READS IS OF BULK AT MOST 1048576: true; the input reads as it did. -/
def roundActsUptoRow : OpenClaim := { program := "ytjlgocngbiapbaa", sum := "126c8d5443d6fad67e391e2e0419b4b460a66d17155b62c6b1b71c1a665012dc", func := "conventicle/conventiclelaw09.RoundActs", spec := "roundActs", inPlace := ["slices.overlaps[int]"], unfollowed := true, recurses := true, plainKeys := false, apart := false, narrowed := true }
def RoundActsUptoSaid : Prop := roundActsUptoRow.holds Try.pinned (OpenSpec.upto roundActsSpec)

end Rows
end Go.Proofs.Ytjlgocngbiapbaa
