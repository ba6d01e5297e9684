/-
  No cell of these rows narrows 'for every input' (looked for: loops, veiled, ifaces, maps, wideKeys, modest, calm, conditions, laid).
  DERIVED. THE GIVEN ROWS OF THIS SEAT. 11 by the template 'for every input the law returns true; each argument reads behind the call as it read before'; 0 by the template 'total and deterministic' (their statements: YtaajhkdifliblaaTotals.lean).
  GIVEN WITH THE SEED: the statements are not yours to turn. If you find one false, say at which input.
  Laid BY PROGRAM, IN A SANDBOX (cutbox-rows.mjs): the forced cells as the released guide's own fill.sh prints them over the translation dcacf13011166462… (all of the seat's roots in one cut). By AI agents, Wed Nov 11 2026. No macro, syntax, notation, axiom, sorry.
-/
import Derived.Test.YtaajhkdifliblaaChecked
import GoSem.Claim
import GoSem.ClaimJoined
import GoSem.ClaimMapViews
import Derived.JoinedTies
import Derived.KernelRfl
namespace Go.Proofs.Ytaajhkdifliblaa
/- THE CELL 'sum', in the pinned program and in every row, IS THE sha256 OF THE DUMP (.gsa) THAT YtaajhkdifliblaaProg.lean LOADS. Nothing in Lean hashes anything: it is a label: what it is worth is what the hold of that sum in a sandbox is worth. -/
noncomputable def Try.pinned : Pinned := { name := "ytaajhkdifliblaa", sum := "dcacf1301116646227e2997594e5dafda4ee985d6728692ac7b283d1c34f39f5", checked := Try.checked }
namespace Rows
def none {H : Type} : Left H := { results := [], args := [] }

/-- 'waystonelaw09.SumsInternet': WHATEVER THE INPUT: true; the input reads as it did. -/
def sumsInternetSpec : ChangeSpec := { name := "sumsInternet", fn := fun _ => fun
  | [d] => { results := [.lit (.bool true)], args := [d] }
  | _ => none }
def sumsInternetRow : OpenClaim := { program := "ytaajhkdifliblaa", sum := "dcacf1301116646227e2997594e5dafda4ee985d6728692ac7b283d1c34f39f5", func := "waystone/waystonelaw09.SumsInternet", spec := "sumsInternet", plainKeys := false, apart := false }
def SumsInternetSaid : Prop := sumsInternetRow.holds Try.pinned (OpenSpec.ofChange sumsInternetSpec)

/-- ITS FALSE NEIGHBOUR: 'it returns false'. Refute it at one input. -/
def sumsInternetWrong : ChangeSpec := { name := "sumsInternet", fn := fun _ => fun
  | [d] => { results := [.lit (.bool false)], args := [d] }
  | _ => none }
def SumsInternetWrongFalsely : Prop := sumsInternetRow.holds Try.pinned (OpenSpec.ofChange sumsInternetWrong)

/-- 'waystonelaw09.SumsFletcher': WHATEVER THE INPUT: true; the input reads as it did. -/
def sumsFletcherSpec : ChangeSpec := { name := "sumsFletcher", fn := fun _ => fun
  | [d1, d2, d3] => { results := [.lit (.bool true)], args := [d1, d2, d3] }
  | _ => none }
def sumsFletcherRow : OpenClaim := { program := "ytaajhkdifliblaa", sum := "dcacf1301116646227e2997594e5dafda4ee985d6728692ac7b283d1c34f39f5", func := "waystone/waystonelaw09.SumsFletcher", spec := "sumsFletcher", plainKeys := false, apart := false }
def SumsFletcherSaid : Prop := sumsFletcherRow.holds Try.pinned (OpenSpec.ofChange sumsFletcherSpec)

/-- ITS FALSE NEIGHBOUR: 'it returns false'. Refute it at one input. -/
def sumsFletcherWrong : ChangeSpec := { name := "sumsFletcher", fn := fun _ => fun
  | [d1, d2, d3] => { results := [.lit (.bool false)], args := [d1, d2, d3] }
  | _ => none }
def SumsFletcherWrongFalsely : Prop := sumsFletcherRow.holds Try.pinned (OpenSpec.ofChange sumsFletcherWrong)

/-- 'waystonelaw01.DiskKept': WHATEVER THE INPUT: true; the input reads as it did. -/
def diskKeptSpec : ChangeSpec := { name := "diskKept", fn := fun _ => fun
  | [d1, d2] => { results := [.lit (.bool true)], args := [d1, d2] }
  | _ => none }
def diskKeptRow : OpenClaim := { program := "ytaajhkdifliblaa", sum := "dcacf1301116646227e2997594e5dafda4ee985d6728692ac7b283d1c34f39f5", func := "waystone/waystonelaw01.DiskKept", spec := "diskKept", plainKeys := false, apart := false }
def DiskKeptSaid : Prop := diskKeptRow.holds Try.pinned (OpenSpec.ofChange diskKeptSpec)

/-- ITS FALSE NEIGHBOUR: 'it returns false'. Refute it at one input. -/
def diskKeptWrong : ChangeSpec := { name := "diskKept", fn := fun _ => fun
  | [d1, d2] => { results := [.lit (.bool false)], args := [d1, d2] }
  | _ => none }
def DiskKeptWrongFalsely : Prop := diskKeptRow.holds Try.pinned (OpenSpec.ofChange diskKeptWrong)

/-- 'waystonelaw13.ElectOne': WHATEVER THE INPUT: true; the input reads as it did. -/
def electOneSpec : ChangeSpec := { name := "electOne", fn := fun _ => fun
  | [d1, d2] => { results := [.lit (.bool true)], args := [d1, d2] }
  | _ => none }
def electOneRow : OpenClaim := { program := "ytaajhkdifliblaa", sum := "dcacf1301116646227e2997594e5dafda4ee985d6728692ac7b283d1c34f39f5", func := "waystone/waystonelaw13.ElectOne", spec := "electOne", unfollowed := true, recurses := true, plainKeys := false, apart := false }
def ElectOneSaid : Prop := electOneRow.holds Try.pinned (OpenSpec.ofChange electOneSpec)

/-- ITS FALSE NEIGHBOUR: 'it returns false'. Refute it at one input. -/
def electOneWrong : ChangeSpec := { name := "electOne", fn := fun _ => fun
  | [d1, d2] => { results := [.lit (.bool false)], args := [d1, d2] }
  | _ => none }
def ElectOneWrongFalsely : Prop := electOneRow.holds Try.pinned (OpenSpec.ofChange electOneWrong)

/-- 'waystonelaw01.DiskActs': WHATEVER THE INPUT: true; the input reads as it did. -/
def diskActsSpec : ChangeSpec := { name := "diskActs", fn := fun _ => fun
  | [d1, d2] => { results := [.lit (.bool true)], args := [d1, d2] }
  | _ => none }
def diskActsRow : OpenClaim := { program := "ytaajhkdifliblaa", sum := "dcacf1301116646227e2997594e5dafda4ee985d6728692ac7b283d1c34f39f5", func := "waystone/waystonelaw01.DiskActs", spec := "diskActs", plainKeys := false, apart := false }
def DiskActsSaid : Prop := diskActsRow.holds Try.pinned (OpenSpec.ofChange diskActsSpec)

/-- ITS FALSE NEIGHBOUR: 'it returns false'. Refute it at one input. -/
def diskActsWrong : ChangeSpec := { name := "diskActs", fn := fun _ => fun
  | [d1, d2] => { results := [.lit (.bool false)], args := [d1, d2] }
  | _ => none }
def DiskActsWrongFalsely : Prop := diskActsRow.holds Try.pinned (OpenSpec.ofChange diskActsWrong)

/-- 'waystonelaw10.LsaPuts': WHATEVER THE INPUT: true; the input reads as it did. -/
def lsaPutsSpec : ChangeSpec := { name := "lsaPuts", fn := fun _ => fun
  | [d] => { results := [.lit (.bool true)], args := [d] }
  | _ => none }
def lsaPutsRow : OpenClaim := { program := "ytaajhkdifliblaa", sum := "dcacf1301116646227e2997594e5dafda4ee985d6728692ac7b283d1c34f39f5", func := "waystone/waystonelaw10.LsaPuts", spec := "lsaPuts", unfollowed := true, recurses := true, plainKeys := false, apart := false }
def LsaPutsSaid : Prop := lsaPutsRow.holds Try.pinned (OpenSpec.ofChange lsaPutsSpec)

/-- ITS FALSE NEIGHBOUR: 'it returns false'. Refute it at one input. -/
def lsaPutsWrong : ChangeSpec := { name := "lsaPuts", fn := fun _ => fun
  | [d] => { results := [.lit (.bool false)], args := [d] }
  | _ => none }
def LsaPutsWrongFalsely : Prop := lsaPutsRow.holds Try.pinned (OpenSpec.ofChange lsaPutsWrong)

/-- 'waystonelaw10.LsaGets': WHATEVER THE INPUT: true; the input reads as it did. -/
def lsaGetsSpec : ChangeSpec := { name := "lsaGets", fn := fun _ => fun
  | [d1, d2, d3] => { results := [.lit (.bool true)], args := [d1, d2, d3] }
  | _ => none }
def lsaGetsRow : OpenClaim := { program := "ytaajhkdifliblaa", sum := "dcacf1301116646227e2997594e5dafda4ee985d6728692ac7b283d1c34f39f5", func := "waystone/waystonelaw10.LsaGets", spec := "lsaGets", unfollowed := true, recurses := true, plainKeys := false, apart := false }
def LsaGetsSaid : Prop := lsaGetsRow.holds Try.pinned (OpenSpec.ofChange lsaGetsSpec)

/-- ITS FALSE NEIGHBOUR: 'it returns false'. Refute it at one input. -/
def lsaGetsWrong : ChangeSpec := { name := "lsaGets", fn := fun _ => fun
  | [d1, d2, d3] => { results := [.lit (.bool false)], args := [d1, d2, d3] }
  | _ => none }
def LsaGetsWrongFalsely : Prop := lsaGetsRow.holds Try.pinned (OpenSpec.ofChange lsaGetsWrong)

/-- 'waystonelaw10.LsaAlike': WHATEVER THE INPUT: true; the input reads as it did. -/
def lsaAlikeSpec : ChangeSpec := { name := "lsaAlike", fn := fun _ => fun
  | [d1, d2, d3] => { results := [.lit (.bool true)], args := [d1, d2, d3] }
  | _ => none }
def lsaAlikeRow : OpenClaim := { program := "ytaajhkdifliblaa", sum := "dcacf1301116646227e2997594e5dafda4ee985d6728692ac7b283d1c34f39f5", func := "waystone/waystonelaw10.LsaAlike", spec := "lsaAlike", unfollowed := true, recurses := true, plainKeys := false, apart := false }
def LsaAlikeSaid : Prop := lsaAlikeRow.holds Try.pinned (OpenSpec.ofChange lsaAlikeSpec)

/-- ITS FALSE NEIGHBOUR: 'it returns false'. Refute it at one input. -/
def lsaAlikeWrong : ChangeSpec := { name := "lsaAlike", fn := fun _ => fun
  | [d1, d2, d3] => { results := [.lit (.bool false)], args := [d1, d2, d3] }
  | _ => none }
def LsaAlikeWrongFalsely : Prop := lsaAlikeRow.holds Try.pinned (OpenSpec.ofChange lsaAlikeWrong)

/-- 'waystonelaw12.LsdbOrders': WHATEVER THE INPUT: true; the input reads as it did. -/
def lsdbOrdersSpec : ChangeSpec := { name := "lsdbOrders", fn := fun _ => fun
  | [d1, d2] => { results := [.lit (.bool true)], args := [d1, d2] }
  | _ => none }
def lsdbOrdersRow : OpenClaim := { program := "ytaajhkdifliblaa", sum := "dcacf1301116646227e2997594e5dafda4ee985d6728692ac7b283d1c34f39f5", func := "waystone/waystonelaw12.LsdbOrders", spec := "lsdbOrders", unfollowed := true, recurses := true, plainKeys := false, apart := false }
def LsdbOrdersSaid : Prop := lsdbOrdersRow.holds Try.pinned (OpenSpec.ofChange lsdbOrdersSpec)

/-- ITS FALSE NEIGHBOUR: 'it returns false'. Refute it at one input. -/
def lsdbOrdersWrong : ChangeSpec := { name := "lsdbOrders", fn := fun _ => fun
  | [d1, d2] => { results := [.lit (.bool false)], args := [d1, d2] }
  | _ => none }
def LsdbOrdersWrongFalsely : Prop := lsdbOrdersRow.holds Try.pinned (OpenSpec.ofChange lsdbOrdersWrong)

/-- 'waystonelaw12.LsdbLess': WHATEVER THE INPUT: true; the input reads as it did. -/
def lsdbLessSpec : ChangeSpec := { name := "lsdbLess", fn := fun _ => fun
  | [d1, d2] => { results := [.lit (.bool true)], args := [d1, d2] }
  | _ => none }
def lsdbLessRow : OpenClaim := { program := "ytaajhkdifliblaa", sum := "dcacf1301116646227e2997594e5dafda4ee985d6728692ac7b283d1c34f39f5", func := "waystone/waystonelaw12.LsdbLess", spec := "lsdbLess", unfollowed := true, recurses := true, plainKeys := false, apart := false }
def LsdbLessSaid : Prop := lsdbLessRow.holds Try.pinned (OpenSpec.ofChange lsdbLessSpec)

/-- ITS FALSE NEIGHBOUR: 'it returns false'. Refute it at one input. -/
def lsdbLessWrong : ChangeSpec := { name := "lsdbLess", fn := fun _ => fun
  | [d1, d2] => { results := [.lit (.bool false)], args := [d1, d2] }
  | _ => none }
def LsdbLessWrongFalsely : Prop := lsdbLessRow.holds Try.pinned (OpenSpec.ofChange lsdbLessWrong)

/-- 'waystonelaw10.LsaAges': WHATEVER THE INPUT: true; the input reads as it did. -/
def lsaAgesSpec : ChangeSpec := { name := "lsaAges", fn := fun _ => fun
  | [d1, d2, d3] => { results := [.lit (.bool true)], args := [d1, d2, d3] }
  | _ => none }
def lsaAgesRow : OpenClaim := { program := "ytaajhkdifliblaa", sum := "dcacf1301116646227e2997594e5dafda4ee985d6728692ac7b283d1c34f39f5", func := "waystone/waystonelaw10.LsaAges", spec := "lsaAges", unfollowed := true, recurses := true, plainKeys := false, apart := false }
def LsaAgesSaid : Prop := lsaAgesRow.holds Try.pinned (OpenSpec.ofChange lsaAgesSpec)

/-- ITS FALSE NEIGHBOUR: 'it returns false'. Refute it at one input. -/
def lsaAgesWrong : ChangeSpec := { name := "lsaAges", fn := fun _ => fun
  | [d1, d2, d3] => { results := [.lit (.bool false)], args := [d1, d2, d3] }
  | _ => none }
def LsaAgesWrongFalsely : Prop := lsaAgesRow.holds Try.pinned (OpenSpec.ofChange lsaAgesWrong)

/- THE SECOND FORM. 'bulk': how many values and letters a reading holds, each counted each time it is reached (what is shared counts as often as it is met; a slice's spare places count too). A statement '..UptoSaid' is the law's where the arguments, and the package variables that the reading takes, are together of bulk at most 1048576: NARROWER than '..Said'. Prove '..Said' where nothing that the law and all that it calls make is longer than what came in: it says more and counts as full. Else prove '..UptoSaid'. A law counts once. -/
mutual
def uptoBulk {H : Type} : DataW H → Nat
  | .lit (.string bytes) => bytes.length + 1
  | .lit _ => 1
  | .nil => 1
  | .ptr d => uptoBulk d + 1
  | .slice elems spare => uptoBulkAll elems + uptoBulkAll spare + 1
  | .agg parts => uptoBulkAll parts + 1
  | .iface _ d => uptoBulk d + 1
  | .map entries => uptoBulkEntries entries + 1
  | .held _ => 1
def uptoBulkAll {H : Type} : List (DataW H) → Nat
  | [] => 0
  | d :: r => uptoBulk d + uptoBulkAll r
def uptoBulkEntries {H : Type} : List (Lit × DataW H) → Nat
  | [] => 0
  | x :: r => uptoBulkEntry x + uptoBulkEntries r
def uptoBulkEntry {H : Type} : Lit × DataW H → Nat
  | (.string bytes, d) => bytes.length + uptoBulk d + 1
  | (_, d) => uptoBulk d + 1
 end
def uptoSmall : (H : Type) → List (DataW H) → Bool := fun _ ds => decide (uptoBulkAll ds ≤ 1048576)
def OpenSpec.upto (s : _root_.Go.ChangeSpec) : _root_.Go.OpenSpec := { _root_.Go.OpenSpec.ofChange s with cond := some uptoSmall }

/-- 'waystonelaw09.SumsInternet', WHERE WHAT IT READS IS OF BULK AT MOST 1048576: true; the input reads as it did. -/
def sumsInternetUptoRow : OpenClaim := { program := "ytaajhkdifliblaa", sum := "dcacf1301116646227e2997594e5dafda4ee985d6728692ac7b283d1c34f39f5", func := "waystone/waystonelaw09.SumsInternet", spec := "sumsInternet", plainKeys := false, apart := false, narrowed := true }
def SumsInternetUptoSaid : Prop := sumsInternetUptoRow.holds Try.pinned (OpenSpec.upto sumsInternetSpec)

/-- 'waystonelaw09.SumsFletcher', WHERE WHAT IT READS IS OF BULK AT MOST 1048576: true; the input reads as it did. -/
def sumsFletcherUptoRow : OpenClaim := { program := "ytaajhkdifliblaa", sum := "dcacf1301116646227e2997594e5dafda4ee985d6728692ac7b283d1c34f39f5", func := "waystone/waystonelaw09.SumsFletcher", spec := "sumsFletcher", plainKeys := false, apart := false, narrowed := true }
def SumsFletcherUptoSaid : Prop := sumsFletcherUptoRow.holds Try.pinned (OpenSpec.upto sumsFletcherSpec)

/-- 'waystonelaw01.DiskKept', WHERE WHAT IT READS IS OF BULK AT MOST 1048576: true; the input reads as it did. -/
def diskKeptUptoRow : OpenClaim := { program := "ytaajhkdifliblaa", sum := "dcacf1301116646227e2997594e5dafda4ee985d6728692ac7b283d1c34f39f5", func := "waystone/waystonelaw01.DiskKept", spec := "diskKept", plainKeys := false, apart := false, narrowed := true }
def DiskKeptUptoSaid : Prop := diskKeptUptoRow.holds Try.pinned (OpenSpec.upto diskKeptSpec)

/-- 'waystonelaw13.ElectOne', WHERE WHAT IT READS IS OF BULK AT MOST 1048576: true; the input reads as it did. -/
def electOneUptoRow : OpenClaim := { program := "ytaajhkdifliblaa", sum := "dcacf1301116646227e2997594e5dafda4ee985d6728692ac7b283d1c34f39f5", func := "waystone/waystonelaw13.ElectOne", spec := "electOne", unfollowed := true, recurses := true, plainKeys := false, apart := false, narrowed := true }
def ElectOneUptoSaid : Prop := electOneUptoRow.holds Try.pinned (OpenSpec.upto electOneSpec)

/-- 'waystonelaw01.DiskActs', WHERE WHAT IT READS IS OF BULK AT MOST 1048576: true; the input reads as it did. -/
def diskActsUptoRow : OpenClaim := { program := "ytaajhkdifliblaa", sum := "dcacf1301116646227e2997594e5dafda4ee985d6728692ac7b283d1c34f39f5", func := "waystone/waystonelaw01.DiskActs", spec := "diskActs", plainKeys := false, apart := false, narrowed := true }
def DiskActsUptoSaid : Prop := diskActsUptoRow.holds Try.pinned (OpenSpec.upto diskActsSpec)

/-- 'waystonelaw10.LsaPuts', WHERE WHAT IT READS IS OF BULK AT MOST 1048576: true; the input reads as it did. -/
def lsaPutsUptoRow : OpenClaim := { program := "ytaajhkdifliblaa", sum := "dcacf1301116646227e2997594e5dafda4ee985d6728692ac7b283d1c34f39f5", func := "waystone/waystonelaw10.LsaPuts", spec := "lsaPuts", unfollowed := true, recurses := true, plainKeys := false, apart := false, narrowed := true }
def LsaPutsUptoSaid : Prop := lsaPutsUptoRow.holds Try.pinned (OpenSpec.upto lsaPutsSpec)

/-- 'waystonelaw10.LsaGets', WHERE WHAT IT READS IS OF BULK AT MOST 1048576: true; the input reads as it did. -/
def lsaGetsUptoRow : OpenClaim := { program := "ytaajhkdifliblaa", sum := "dcacf1301116646227e2997594e5dafda4ee985d6728692ac7b283d1c34f39f5", func := "waystone/waystonelaw10.LsaGets", spec := "lsaGets", unfollowed := true, recurses := true, plainKeys := false, apart := false, narrowed := true }
def LsaGetsUptoSaid : Prop := lsaGetsUptoRow.holds Try.pinned (OpenSpec.upto lsaGetsSpec)

/-- 'waystonelaw10.LsaAlike', WHERE WHAT IT READS IS OF BULK AT MOST 1048576: true; the input reads as it did. -/
def lsaAlikeUptoRow : OpenClaim := { program := "ytaajhkdifliblaa", sum := "dcacf1301116646227e2997594e5dafda4ee985d6728692ac7b283d1c34f39f5", func := "waystone/waystonelaw10.LsaAlike", spec := "lsaAlike", unfollowed := true, recurses := true, plainKeys := false, apart := false, narrowed := true }
def LsaAlikeUptoSaid : Prop := lsaAlikeUptoRow.holds Try.pinned (OpenSpec.upto lsaAlikeSpec)

/-- 'waystonelaw12.LsdbOrders', WHERE WHAT IT READS IS OF BULK AT MOST 1048576: true; the input reads as it did. -/
def lsdbOrdersUptoRow : OpenClaim := { program := "ytaajhkdifliblaa", sum := "dcacf1301116646227e2997594e5dafda4ee985d6728692ac7b283d1c34f39f5", func := "waystone/waystonelaw12.LsdbOrders", spec := "lsdbOrders", unfollowed := true, recurses := true, plainKeys := false, apart := false, narrowed := true }
def LsdbOrdersUptoSaid : Prop := lsdbOrdersUptoRow.holds Try.pinned (OpenSpec.upto lsdbOrdersSpec)

/-- 'waystonelaw12.LsdbLess', WHERE WHAT IT READS IS OF BULK AT MOST 1048576: true; the input reads as it did. -/
def lsdbLessUptoRow : OpenClaim := { program := "ytaajhkdifliblaa", sum := "dcacf1301116646227e2997594e5dafda4ee985d6728692ac7b283d1c34f39f5", func := "waystone/waystonelaw12.LsdbLess", spec := "lsdbLess", unfollowed := true, recurses := true, plainKeys := false, apart := false, narrowed := true }
def LsdbLessUptoSaid : Prop := lsdbLessUptoRow.holds Try.pinned (OpenSpec.upto lsdbLessSpec)

/-- 'waystonelaw10.LsaAges', WHERE WHAT IT READS IS OF BULK AT MOST 1048576: true; the input reads as it did. -/
def lsaAgesUptoRow : OpenClaim := { program := "ytaajhkdifliblaa", sum := "dcacf1301116646227e2997594e5dafda4ee985d6728692ac7b283d1c34f39f5", func := "waystone/waystonelaw10.LsaAges", spec := "lsaAges", unfollowed := true, recurses := true, plainKeys := false, apart := false, narrowed := true }
def LsaAgesUptoSaid : Prop := lsaAgesUptoRow.holds Try.pinned (OpenSpec.upto lsaAgesSpec)

end Rows
end Go.Proofs.Ytaajhkdifliblaa
