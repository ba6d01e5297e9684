/-
  No cell of these rows narrows 'for every input' (looked for: loops, veiled, ifaces, maps, wideKeys, modest, calm, conditions, laid).
  DERIVED. THE GIVEN ROWS OF THIS SEAT. 5 by the template 'for every input the law returns true; each argument reads behind the call as it read before'; 0 by the template 'total and deterministic' (their statements: YtgopkpogakjckaaTotals.lean).
  GIVEN WITH THE SEED: the statements are not yours to turn. If you find one false, say at which input.
  Laid BY PROGRAM, IN A SANDBOX (cutbox-rows.mjs): the forced cells as the released guide's own fill.sh prints them over the translation 8b8327601574f0ba… (all of the seat's roots in one cut). By AI agents, Wed Nov 11 2026. No macro, syntax, notation, axiom, sorry.
-/
import Derived.Test.YtgopkpogakjckaaChecked
import GoSem.Claim
import GoSem.ClaimJoined
import GoSem.ClaimMapViews
import Derived.JoinedTies
import Derived.KernelRfl
namespace Go.Proofs.Ytgopkpogakjckaa
/- THE CELL 'sum', in the pinned program and in every row, IS THE sha256 OF THE DUMP (.gsa) THAT YtgopkpogakjckaaProg.lean LOADS. Nothing in Lean hashes anything: it is a label: what it is worth is what the hold of that sum in a sandbox is worth. -/
noncomputable def Try.pinned : Pinned := { name := "ytgopkpogakjckaa", sum := "8b8327601574f0bad43c16f656e563e5307b1ba5b8311db7049e4e55719cef1a", checked := Try.checked }
namespace Rows
def none {H : Type} : Left H := { results := [], args := [] }

/-- 'waystonelaw11.PacketPuts': WHATEVER THE INPUT: true; the input reads as it did. -/
def packetPutsSpec : ChangeSpec := { name := "packetPuts", fn := fun _ => fun
  | [d1, d2] => { results := [.lit (.bool true)], args := [d1, d2] }
  | _ => none }
def packetPutsRow : OpenClaim := { program := "ytgopkpogakjckaa", sum := "8b8327601574f0bad43c16f656e563e5307b1ba5b8311db7049e4e55719cef1a", func := "waystone/waystonelaw11.PacketPuts", spec := "packetPuts", inPlace := ["internal/bytealg.IndexByteString"], unfollowed := true, recurses := true, plainKeys := false, apart := false }
def PacketPutsSaid : Prop := packetPutsRow.holds Try.pinned (OpenSpec.ofChange packetPutsSpec)

/-- ITS FALSE NEIGHBOUR: 'it returns false'. Refute it at one input. -/
def packetPutsWrong : ChangeSpec := { name := "packetPuts", fn := fun _ => fun
  | [d1, d2] => { results := [.lit (.bool false)], args := [d1, d2] }
  | _ => none }
def PacketPutsWrongFalsely : Prop := packetPutsRow.holds Try.pinned (OpenSpec.ofChange packetPutsWrong)

/-- 'waystonelaw11.PacketGets': WHATEVER THE INPUT: true; the input reads as it did. -/
def packetGetsSpec : ChangeSpec := { name := "packetGets", fn := fun _ => fun
  | [d1, d2, d3] => { results := [.lit (.bool true)], args := [d1, d2, d3] }
  | _ => none }
def packetGetsRow : OpenClaim := { program := "ytgopkpogakjckaa", sum := "8b8327601574f0bad43c16f656e563e5307b1ba5b8311db7049e4e55719cef1a", func := "waystone/waystonelaw11.PacketGets", spec := "packetGets", inPlace := ["internal/bytealg.IndexByteString"], unfollowed := true, recurses := true, plainKeys := false, apart := false }
def PacketGetsSaid : Prop := packetGetsRow.holds Try.pinned (OpenSpec.ofChange packetGetsSpec)

/-- ITS FALSE NEIGHBOUR: 'it returns false'. Refute it at one input. -/
def packetGetsWrong : ChangeSpec := { name := "packetGets", fn := fun _ => fun
  | [d1, d2, d3] => { results := [.lit (.bool false)], args := [d1, d2, d3] }
  | _ => none }
def PacketGetsWrongFalsely : Prop := packetGetsRow.holds Try.pinned (OpenSpec.ofChange packetGetsWrong)

/-- 'waystonelaw11.PacketRaw': WHATEVER THE INPUT: true; the input reads as it did. -/
def packetRawSpec : ChangeSpec := { name := "packetRaw", fn := fun _ => fun
  | [d1, d2] => { results := [.lit (.bool true)], args := [d1, d2] }
  | _ => none }
def packetRawRow : OpenClaim := { program := "ytgopkpogakjckaa", sum := "8b8327601574f0bad43c16f656e563e5307b1ba5b8311db7049e4e55719cef1a", func := "waystone/waystonelaw11.PacketRaw", spec := "packetRaw", inPlace := ["internal/bytealg.IndexByteString"], unfollowed := true, recurses := true, plainKeys := false, apart := false }
def PacketRawSaid : Prop := packetRawRow.holds Try.pinned (OpenSpec.ofChange packetRawSpec)

/-- ITS FALSE NEIGHBOUR: 'it returns false'. Refute it at one input. -/
def packetRawWrong : ChangeSpec := { name := "packetRaw", fn := fun _ => fun
  | [d1, d2] => { results := [.lit (.bool false)], args := [d1, d2] }
  | _ => none }
def PacketRawWrongFalsely : Prop := packetRawRow.holds Try.pinned (OpenSpec.ofChange packetRawWrong)

/-- 'waystonelaw12.LsdbActs': WHATEVER THE INPUT: true; the input reads as it did. -/
def lsdbActsSpec : ChangeSpec := { name := "lsdbActs", fn := fun _ => fun
  | [d] => { results := [.lit (.bool true)], args := [d] }
  | _ => none }
def lsdbActsRow : OpenClaim := { program := "ytgopkpogakjckaa", sum := "8b8327601574f0bad43c16f656e563e5307b1ba5b8311db7049e4e55719cef1a", func := "waystone/waystonelaw12.LsdbActs", spec := "lsdbActs", inPlace := ["maps.clone"], unfollowed := true, recurses := true, plainKeys := false, apart := false }
def LsdbActsSaid : Prop := lsdbActsRow.holds Try.pinned (OpenSpec.ofChange lsdbActsSpec)

/-- ITS FALSE NEIGHBOUR: 'it returns false'. Refute it at one input. -/
def lsdbActsWrong : ChangeSpec := { name := "lsdbActs", fn := fun _ => fun
  | [d] => { results := [.lit (.bool false)], args := [d] }
  | _ => none }
def LsdbActsWrongFalsely : Prop := lsdbActsRow.holds Try.pinned (OpenSpec.ofChange lsdbActsWrong)

/-- 'waystonetop.WaystoneUpdates': WHATEVER THE INPUT: true; the input reads as it did. -/
def waystoneUpdatesSpec : ChangeSpec := { name := "waystoneUpdates", fn := fun _ => fun
  | [d1, d2, d3] => { results := [.lit (.bool true)], args := [d1, d2, d3] }
  | _ => none }
def waystoneUpdatesRow : OpenClaim := { program := "ytgopkpogakjckaa", sum := "8b8327601574f0bad43c16f656e563e5307b1ba5b8311db7049e4e55719cef1a", func := "waystone/waystonetop.WaystoneUpdates", spec := "waystoneUpdates", inPlace := ["internal/bytealg.IndexByteString"], unfollowed := true, recurses := true, plainKeys := false, apart := false }
def WaystoneUpdatesSaid : Prop := waystoneUpdatesRow.holds Try.pinned (OpenSpec.ofChange waystoneUpdatesSpec)

/-- ITS FALSE NEIGHBOUR: 'it returns false'. Refute it at one input. -/
def waystoneUpdatesWrong : ChangeSpec := { name := "waystoneUpdates", fn := fun _ => fun
  | [d1, d2, d3] => { results := [.lit (.bool false)], args := [d1, d2, d3] }
  | _ => none }
def WaystoneUpdatesWrongFalsely : Prop := waystoneUpdatesRow.holds Try.pinned (OpenSpec.ofChange waystoneUpdatesWrong)

/- THE SECOND FORM. 'bulk': how many values and letters a reading holds, each counted each time it is reached (what is shared counts as often as it is met; a slice's spare places count too). A statement '..UptoSaid' is the law's where the arguments, and the package variables that the reading takes, are together of bulk at most 1048576: NARROWER than '..Said'. Prove '..Said' where nothing that the law and all that it calls make is longer than what came in: it says more and counts as full. Else prove '..UptoSaid'. A law counts once. -/
mutual
def uptoBulk {H : Type} : DataW H → Nat
  | .lit (.string bytes) => bytes.length + 1
  | .lit _ => 1
  | .nil => 1
  | .ptr d => uptoBulk d + 1
  | .slice elems spare => uptoBulkAll elems + uptoBulkAll spare + 1
  | .agg parts => uptoBulkAll parts + 1
  | .iface _ d => uptoBulk d + 1
  | .map entries => uptoBulkEntries entries + 1
  | .held _ => 1
def uptoBulkAll {H : Type} : List (DataW H) → Nat
  | [] => 0
  | d :: r => uptoBulk d + uptoBulkAll r
def uptoBulkEntries {H : Type} : List (Lit × DataW H) → Nat
  | [] => 0
  | x :: r => uptoBulkEntry x + uptoBulkEntries r
def uptoBulkEntry {H : Type} : Lit × DataW H → Nat
  | (.string bytes, d) => bytes.length + uptoBulk d + 1
  | (_, d) => uptoBulk d + 1
 end
def uptoSmall : (H : Type) → List (DataW H) → Bool := fun _ ds => decide (uptoBulkAll ds ≤ 1048576)
def OpenSpec.upto (s : _root_.Go.ChangeSpec) : _root_.Go.OpenSpec := { _root_.Go.OpenSpec.ofChange s with cond := some uptoSmall }

/-- 'waystonelaw11.PacketPuts', WHERE WHAT IT READS IS OF BULK AT MOST 1048576: true; the input reads as it did. -/
def packetPutsUptoRow : OpenClaim := { program := "ytgopkpogakjckaa", sum := "8b8327601574f0bad43c16f656e563e5307b1ba5b8311db7049e4e55719cef1a", func := "waystone/waystonelaw11.PacketPuts", spec := "packetPuts", inPlace := ["internal/bytealg.IndexByteString"], unfollowed := true, recurses := true, plainKeys := false, apart := false, narrowed := true }
def PacketPutsUptoSaid : Prop := packetPutsUptoRow.holds Try.pinned (OpenSpec.upto packetPutsSpec)

/-- 'waystonelaw11.PacketGets', WHERE WHAT IT READS IS OF BULK AT MOST 1048576: true; the input reads as it did. -/
def packetGetsUptoRow : OpenClaim := { program := "ytgopkpogakjckaa", sum := "8b8327601574f0bad43c16f656e563e5307b1ba5b8311db7049e4e55719cef1a", func := "waystone/waystonelaw11.PacketGets", spec := "packetGets", inPlace := ["internal/bytealg.IndexByteString"], unfollowed := true, recurses := true, plainKeys := false, apart := false, narrowed := true }
def PacketGetsUptoSaid : Prop := packetGetsUptoRow.holds Try.pinned (OpenSpec.upto packetGetsSpec)

/-- 'waystonelaw11.PacketRaw', WHERE WHAT IT READS IS OF BULK AT MOST 1048576: true; the input reads as it did. -/
def packetRawUptoRow : OpenClaim := { program := "ytgopkpogakjckaa", sum := "8b8327601574f0bad43c16f656e563e5307b1ba5b8311db7049e4e55719cef1a", func := "waystone/waystonelaw11.PacketRaw", spec := "packetRaw", inPlace := ["internal/bytealg.IndexByteString"], unfollowed := true, recurses := true, plainKeys := false, apart := false, narrowed := true }
def PacketRawUptoSaid : Prop := packetRawUptoRow.holds Try.pinned (OpenSpec.upto packetRawSpec)

/-- 'waystonelaw12.LsdbActs', WHERE WHAT IT READS IS OF BULK AT MOST 1048576: true; the input reads as it did. -/
def lsdbActsUptoRow : OpenClaim := { program := "ytgopkpogakjckaa", sum := "8b8327601574f0bad43c16f656e563e5307b1ba5b8311db7049e4e55719cef1a", func := "waystone/waystonelaw12.LsdbActs", spec := "lsdbActs", inPlace := ["maps.clone"], unfollowed := true, recurses := true, plainKeys := false, apart := false, narrowed := true }
def LsdbActsUptoSaid : Prop := lsdbActsUptoRow.holds Try.pinned (OpenSpec.upto lsdbActsSpec)

/-- 'waystonetop.WaystoneUpdates', WHERE WHAT IT READS IS OF BULK AT MOST 1048576: true; the input reads as it did. -/
def waystoneUpdatesUptoRow : OpenClaim := { program := "ytgopkpogakjckaa", sum := "8b8327601574f0bad43c16f656e563e5307b1ba5b8311db7049e4e55719cef1a", func := "waystone/waystonetop.WaystoneUpdates", spec := "waystoneUpdates", inPlace := ["internal/bytealg.IndexByteString"], unfollowed := true, recurses := true, plainKeys := false, apart := false, narrowed := true }
def WaystoneUpdatesUptoSaid : Prop := waystoneUpdatesUptoRow.holds Try.pinned (OpenSpec.upto waystoneUpdatesSpec)

end Rows
end Go.Proofs.Ytgopkpogakjckaa
