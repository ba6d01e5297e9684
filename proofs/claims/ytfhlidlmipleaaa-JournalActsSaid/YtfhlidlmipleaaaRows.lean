/-
  No cell of these rows narrows 'for every input' (looked for: loops, veiled, ifaces, maps, wideKeys, modest, calm, conditions, laid).
  DERIVED. THE GIVEN ROWS OF THIS SEAT. 9 by the template 'for every input the law returns true; each argument reads behind the call as it read before'; 0 by the template 'total and deterministic' (their statements: YtfhlidlmipleaaaTotals.lean).
  GIVEN WITH THE SEED: the statements are not yours to turn. If you find one false, say at which input.
  Laid BY PROGRAM, IN A SANDBOX (cutbox-rows.mjs): the forced cells as the released guide's own fill.sh prints them over the translation 78a7054bcd29fa79… (all of the seat's roots in one cut). By AI agents, Wed Nov 11 2026. No macro, syntax, notation, axiom, sorry.
-/
import Derived.Test.YtfhlidlmipleaaaChecked
import GoSem.Claim
import GoSem.ClaimJoined
import GoSem.ClaimMapViews
import Derived.JoinedTies
import Derived.KernelRfl
namespace Go.Proofs.Ytfhlidlmipleaaa
/- THE CELL 'sum', in the pinned program and in every row, IS THE sha256 OF THE DUMP (.gsa) THAT YtfhlidlmipleaaaProg.lean LOADS. Nothing in Lean hashes anything: it is a label: what it is worth is what the hold of that sum in a sandbox is worth. -/
noncomputable def Try.pinned : Pinned := { name := "ytfhlidlmipleaaa", sum := "78a7054bcd29fa79ab69e13dca6219953035309e15af83006f371fbbd9385b4e", checked := Try.checked }
namespace Rows
def none {H : Type} : Left H := { results := [], args := [] }

/-- 'waystonelaw01.DiskActs': WHATEVER THE INPUT: true; the input reads as it did. -/
def diskActsSpec : ChangeSpec := { name := "diskActs", fn := fun _ => fun
  | [d1, d2] => { results := [.lit (.bool true)], args := [d1, d2] }
  | _ => none }
def diskActsRow : OpenClaim := { program := "ytfhlidlmipleaaa", sum := "78a7054bcd29fa79ab69e13dca6219953035309e15af83006f371fbbd9385b4e", func := "waystone/waystonelaw01.DiskActs", spec := "diskActs", plainKeys := false, apart := false }
def DiskActsSaid : Prop := diskActsRow.holds Try.pinned (OpenSpec.ofChange diskActsSpec)

/-- ITS FALSE NEIGHBOUR: 'it returns false'. Refute it at one input. -/
def diskActsWrong : ChangeSpec := { name := "diskActs", fn := fun _ => fun
  | [d1, d2] => { results := [.lit (.bool false)], args := [d1, d2] }
  | _ => none }
def DiskActsWrongFalsely : Prop := diskActsRow.holds Try.pinned (OpenSpec.ofChange diskActsWrong)

/-- 'waystonelaw11.PacketPuts': WHATEVER THE INPUT: true; the input reads as it did. -/
def packetPutsSpec : ChangeSpec := { name := "packetPuts", fn := fun _ => fun
  | [d1, d2] => { results := [.lit (.bool true)], args := [d1, d2] }
  | _ => none }
def packetPutsRow : OpenClaim := { program := "ytfhlidlmipleaaa", sum := "78a7054bcd29fa79ab69e13dca6219953035309e15af83006f371fbbd9385b4e", func := "waystone/waystonelaw11.PacketPuts", spec := "packetPuts", inPlace := ["internal/bytealg.IndexByteString"], unfollowed := true, recurses := true, plainKeys := false, apart := false }
def PacketPutsSaid : Prop := packetPutsRow.holds Try.pinned (OpenSpec.ofChange packetPutsSpec)

/-- ITS FALSE NEIGHBOUR: 'it returns false'. Refute it at one input. -/
def packetPutsWrong : ChangeSpec := { name := "packetPuts", fn := fun _ => fun
  | [d1, d2] => { results := [.lit (.bool false)], args := [d1, d2] }
  | _ => none }
def PacketPutsWrongFalsely : Prop := packetPutsRow.holds Try.pinned (OpenSpec.ofChange packetPutsWrong)

/-- 'waystonelaw11.PacketGets': WHATEVER THE INPUT: true; the input reads as it did. -/
def packetGetsSpec : ChangeSpec := { name := "packetGets", fn := fun _ => fun
  | [d1, d2, d3] => { results := [.lit (.bool true)], args := [d1, d2, d3] }
  | _ => none }
def packetGetsRow : OpenClaim := { program := "ytfhlidlmipleaaa", sum := "78a7054bcd29fa79ab69e13dca6219953035309e15af83006f371fbbd9385b4e", func := "waystone/waystonelaw11.PacketGets", spec := "packetGets", inPlace := ["internal/bytealg.IndexByteString"], unfollowed := true, recurses := true, plainKeys := false, apart := false }
def PacketGetsSaid : Prop := packetGetsRow.holds Try.pinned (OpenSpec.ofChange packetGetsSpec)

/-- ITS FALSE NEIGHBOUR: 'it returns false'. Refute it at one input. -/
def packetGetsWrong : ChangeSpec := { name := "packetGets", fn := fun _ => fun
  | [d1, d2, d3] => { results := [.lit (.bool false)], args := [d1, d2, d3] }
  | _ => none }
def PacketGetsWrongFalsely : Prop := packetGetsRow.holds Try.pinned (OpenSpec.ofChange packetGetsWrong)

/-- 'waystonelaw11.PacketRaw': WHATEVER THE INPUT: true; the input reads as it did. -/
def packetRawSpec : ChangeSpec := { name := "packetRaw", fn := fun _ => fun
  | [d1, d2] => { results := [.lit (.bool true)], args := [d1, d2] }
  | _ => none }
def packetRawRow : OpenClaim := { program := "ytfhlidlmipleaaa", sum := "78a7054bcd29fa79ab69e13dca6219953035309e15af83006f371fbbd9385b4e", func := "waystone/waystonelaw11.PacketRaw", spec := "packetRaw", inPlace := ["internal/bytealg.IndexByteString"], unfollowed := true, recurses := true, plainKeys := false, apart := false }
def PacketRawSaid : Prop := packetRawRow.holds Try.pinned (OpenSpec.ofChange packetRawSpec)

/-- ITS FALSE NEIGHBOUR: 'it returns false'. Refute it at one input. -/
def packetRawWrong : ChangeSpec := { name := "packetRaw", fn := fun _ => fun
  | [d1, d2] => { results := [.lit (.bool false)], args := [d1, d2] }
  | _ => none }
def PacketRawWrongFalsely : Prop := packetRawRow.holds Try.pinned (OpenSpec.ofChange packetRawWrong)

/-- 'waystonelaw12.LsdbActs': WHATEVER THE INPUT: true; the input reads as it did. -/
def lsdbActsSpec : ChangeSpec := { name := "lsdbActs", fn := fun _ => fun
  | [d] => { results := [.lit (.bool true)], args := [d] }
  | _ => none }
def lsdbActsRow : OpenClaim := { program := "ytfhlidlmipleaaa", sum := "78a7054bcd29fa79ab69e13dca6219953035309e15af83006f371fbbd9385b4e", func := "waystone/waystonelaw12.LsdbActs", spec := "lsdbActs", inPlace := ["maps.clone"], unfollowed := true, recurses := true, plainKeys := false, apart := false }
def LsdbActsSaid : Prop := lsdbActsRow.holds Try.pinned (OpenSpec.ofChange lsdbActsSpec)

/-- ITS FALSE NEIGHBOUR: 'it returns false'. Refute it at one input. -/
def lsdbActsWrong : ChangeSpec := { name := "lsdbActs", fn := fun _ => fun
  | [d] => { results := [.lit (.bool false)], args := [d] }
  | _ => none }
def LsdbActsWrongFalsely : Prop := lsdbActsRow.holds Try.pinned (OpenSpec.ofChange lsdbActsWrong)

/-- 'waystonelaw02.JournalSums': WHATEVER THE INPUT: true; the input reads as it did. -/
def journalSumsSpec : ChangeSpec := { name := "journalSums", fn := fun _ => fun
  | [d1, d2] => { results := [.lit (.bool true)], args := [d1, d2] }
  | _ => none }
def journalSumsRow : OpenClaim := { program := "ytfhlidlmipleaaa", sum := "78a7054bcd29fa79ab69e13dca6219953035309e15af83006f371fbbd9385b4e", func := "waystone/waystonelaw02.JournalSums", spec := "journalSums", plainKeys := false, apart := false }
def JournalSumsSaid : Prop := journalSumsRow.holds Try.pinned (OpenSpec.ofChange journalSumsSpec)

/-- ITS FALSE NEIGHBOUR: 'it returns false'. Refute it at one input. -/
def journalSumsWrong : ChangeSpec := { name := "journalSums", fn := fun _ => fun
  | [d1, d2] => { results := [.lit (.bool false)], args := [d1, d2] }
  | _ => none }
def JournalSumsWrongFalsely : Prop := journalSumsRow.holds Try.pinned (OpenSpec.ofChange journalSumsWrong)

/-- 'waystonelaw02.JournalRooms': WHATEVER THE INPUT: true; the input reads as it did. -/
def journalRoomsSpec : ChangeSpec := { name := "journalRooms", fn := fun _ => fun
  | [d1, d2] => { results := [.lit (.bool true)], args := [d1, d2] }
  | _ => none }
def journalRoomsRow : OpenClaim := { program := "ytfhlidlmipleaaa", sum := "78a7054bcd29fa79ab69e13dca6219953035309e15af83006f371fbbd9385b4e", func := "waystone/waystonelaw02.JournalRooms", spec := "journalRooms", plainKeys := false, apart := false }
def JournalRoomsSaid : Prop := journalRoomsRow.holds Try.pinned (OpenSpec.ofChange journalRoomsSpec)

/-- ITS FALSE NEIGHBOUR: 'it returns false'. Refute it at one input. -/
def journalRoomsWrong : ChangeSpec := { name := "journalRooms", fn := fun _ => fun
  | [d1, d2] => { results := [.lit (.bool false)], args := [d1, d2] }
  | _ => none }
def JournalRoomsWrongFalsely : Prop := journalRoomsRow.holds Try.pinned (OpenSpec.ofChange journalRoomsWrong)

/-- 'waystonelaw02.JournalTries': WHATEVER THE INPUT: true; the input reads as it did. -/
def journalTriesSpec : ChangeSpec := { name := "journalTries", fn := fun _ => fun
  | [d1, d2, d3] => { results := [.lit (.bool true)], args := [d1, d2, d3] }
  | _ => none }
def journalTriesRow : OpenClaim := { program := "ytfhlidlmipleaaa", sum := "78a7054bcd29fa79ab69e13dca6219953035309e15af83006f371fbbd9385b4e", func := "waystone/waystonelaw02.JournalTries", spec := "journalTries", plainKeys := false, apart := false }
def JournalTriesSaid : Prop := journalTriesRow.holds Try.pinned (OpenSpec.ofChange journalTriesSpec)

/-- ITS FALSE NEIGHBOUR: 'it returns false'. Refute it at one input. -/
def journalTriesWrong : ChangeSpec := { name := "journalTries", fn := fun _ => fun
  | [d1, d2, d3] => { results := [.lit (.bool false)], args := [d1, d2, d3] }
  | _ => none }
def JournalTriesWrongFalsely : Prop := journalTriesRow.holds Try.pinned (OpenSpec.ofChange journalTriesWrong)

/-- 'waystonelaw02.JournalActs': WHATEVER THE INPUT: true; the input reads as it did. -/
def journalActsSpec : ChangeSpec := { name := "journalActs", fn := fun _ => fun
  | [d1, d2] => { results := [.lit (.bool true)], args := [d1, d2] }
  | _ => none }
def journalActsRow : OpenClaim := { program := "ytfhlidlmipleaaa", sum := "78a7054bcd29fa79ab69e13dca6219953035309e15af83006f371fbbd9385b4e", func := "waystone/waystonelaw02.JournalActs", spec := "journalActs", plainKeys := false, apart := false }
def JournalActsSaid : Prop := journalActsRow.holds Try.pinned (OpenSpec.ofChange journalActsSpec)

/-- ITS FALSE NEIGHBOUR: 'it returns false'. Refute it at one input. -/
def journalActsWrong : ChangeSpec := { name := "journalActs", fn := fun _ => fun
  | [d1, d2] => { results := [.lit (.bool false)], args := [d1, d2] }
  | _ => none }
def JournalActsWrongFalsely : Prop := journalActsRow.holds Try.pinned (OpenSpec.ofChange journalActsWrong)

/- THE SECOND FORM. 'bulk': how many values and letters a reading holds, each counted each time it is reached (what is shared counts as often as it is met; a slice's spare places count too). A statement '..UptoSaid' is the law's where the arguments, and the package variables that the reading takes, are together of bulk at most 1048576: NARROWER than '..Said'. Prove '..Said' where nothing that the law and all that it calls make is longer than what came in: it says more and counts as full. Else prove '..UptoSaid'. A law counts once. -/
mutual
def uptoBulk {H : Type} : DataW H → Nat
  | .lit (.string bytes) => bytes.length + 1
  | .lit _ => 1
  | .nil => 1
  | .ptr d => uptoBulk d + 1
  | .slice elems spare => uptoBulkAll elems + uptoBulkAll spare + 1
  | .agg parts => uptoBulkAll parts + 1
  | .iface _ d => uptoBulk d + 1
  | .map entries => uptoBulkEntries entries + 1
  | .held _ => 1
def uptoBulkAll {H : Type} : List (DataW H) → Nat
  | [] => 0
  | d :: r => uptoBulk d + uptoBulkAll r
def uptoBulkEntries {H : Type} : List (Lit × DataW H) → Nat
  | [] => 0
  | x :: r => uptoBulkEntry x + uptoBulkEntries r
def uptoBulkEntry {H : Type} : Lit × DataW H → Nat
  | (.string bytes, d) => bytes.length + uptoBulk d + 1
  | (_, d) => uptoBulk d + 1
 end
def uptoSmall : (H : Type) → List (DataW H) → Bool := fun _ ds => decide (uptoBulkAll ds ≤ 1048576)
def OpenSpec.upto (s : _root_.Go.ChangeSpec) : _root_.Go.OpenSpec := { _root_.Go.OpenSpec.ofChange s with cond := some uptoSmall }

/-- 'waystonelaw01.DiskActs', WHERE WHAT IT READS IS OF BULK AT MOST 1048576: true; the input reads as it did. -/
def diskActsUptoRow : OpenClaim := { program := "ytfhlidlmipleaaa", sum := "78a7054bcd29fa79ab69e13dca6219953035309e15af83006f371fbbd9385b4e", func := "waystone/waystonelaw01.DiskActs", spec := "diskActs", plainKeys := false, apart := false, narrowed := true }
def DiskActsUptoSaid : Prop := diskActsUptoRow.holds Try.pinned (OpenSpec.upto diskActsSpec)

/-- 'waystonelaw11.PacketPuts', WHERE WHAT IT READS IS OF BULK AT MOST 1048576: true; the input reads as it did. -/
def packetPutsUptoRow : OpenClaim := { program := "ytfhlidlmipleaaa", sum := "78a7054bcd29fa79ab69e13dca6219953035309e15af83006f371fbbd9385b4e", func := "waystone/waystonelaw11.PacketPuts", spec := "packetPuts", inPlace := ["internal/bytealg.IndexByteString"], unfollowed := true, recurses := true, plainKeys := false, apart := false, narrowed := true }
def PacketPutsUptoSaid : Prop := packetPutsUptoRow.holds Try.pinned (OpenSpec.upto packetPutsSpec)

/-- 'waystonelaw11.PacketGets', WHERE WHAT IT READS IS OF BULK AT MOST 1048576: true; the input reads as it did. -/
def packetGetsUptoRow : OpenClaim := { program := "ytfhlidlmipleaaa", sum := "78a7054bcd29fa79ab69e13dca6219953035309e15af83006f371fbbd9385b4e", func := "waystone/waystonelaw11.PacketGets", spec := "packetGets", inPlace := ["internal/bytealg.IndexByteString"], unfollowed := true, recurses := true, plainKeys := false, apart := false, narrowed := true }
def PacketGetsUptoSaid : Prop := packetGetsUptoRow.holds Try.pinned (OpenSpec.upto packetGetsSpec)

/-- 'waystonelaw11.PacketRaw', WHERE WHAT IT READS IS OF BULK AT MOST 1048576: true; the input reads as it did. -/
def packetRawUptoRow : OpenClaim := { program := "ytfhlidlmipleaaa", sum := "78a7054bcd29fa79ab69e13dca6219953035309e15af83006f371fbbd9385b4e", func := "waystone/waystonelaw11.PacketRaw", spec := "packetRaw", inPlace := ["internal/bytealg.IndexByteString"], unfollowed := true, recurses := true, plainKeys := false, apart := false, narrowed := true }
def PacketRawUptoSaid : Prop := packetRawUptoRow.holds Try.pinned (OpenSpec.upto packetRawSpec)

/-- 'waystonelaw12.LsdbActs', WHERE WHAT IT READS IS OF BULK AT MOST 1048576: true; the input reads as it did. -/
def lsdbActsUptoRow : OpenClaim := { program := "ytfhlidlmipleaaa", sum := "78a7054bcd29fa79ab69e13dca6219953035309e15af83006f371fbbd9385b4e", func := "waystone/waystonelaw12.LsdbActs", spec := "lsdbActs", inPlace := ["maps.clone"], unfollowed := true, recurses := true, plainKeys := false, apart := false, narrowed := true }
def LsdbActsUptoSaid : Prop := lsdbActsUptoRow.holds Try.pinned (OpenSpec.upto lsdbActsSpec)

/-- 'waystonelaw02.JournalSums', WHERE WHAT IT READS IS OF BULK AT MOST 1048576: true; the input reads as it did. -/
def journalSumsUptoRow : OpenClaim := { program := "ytfhlidlmipleaaa", sum := "78a7054bcd29fa79ab69e13dca6219953035309e15af83006f371fbbd9385b4e", func := "waystone/waystonelaw02.JournalSums", spec := "journalSums", plainKeys := false, apart := false, narrowed := true }
def JournalSumsUptoSaid : Prop := journalSumsUptoRow.holds Try.pinned (OpenSpec.upto journalSumsSpec)

/-- 'waystonelaw02.JournalRooms', WHERE WHAT IT READS IS OF BULK AT MOST 1048576: true; the input reads as it did. -/
def journalRoomsUptoRow : OpenClaim := { program := "ytfhlidlmipleaaa", sum := "78a7054bcd29fa79ab69e13dca6219953035309e15af83006f371fbbd9385b4e", func := "waystone/waystonelaw02.JournalRooms", spec := "journalRooms", plainKeys := false, apart := false, narrowed := true }
def JournalRoomsUptoSaid : Prop := journalRoomsUptoRow.holds Try.pinned (OpenSpec.upto journalRoomsSpec)

/-- 'waystonelaw02.JournalTries', WHERE WHAT IT READS IS OF BULK AT MOST 1048576: true; the input reads as it did. -/
def journalTriesUptoRow : OpenClaim := { program := "ytfhlidlmipleaaa", sum := "78a7054bcd29fa79ab69e13dca6219953035309e15af83006f371fbbd9385b4e", func := "waystone/waystonelaw02.JournalTries", spec := "journalTries", plainKeys := false, apart := false, narrowed := true }
def JournalTriesUptoSaid : Prop := journalTriesUptoRow.holds Try.pinned (OpenSpec.upto journalTriesSpec)

/-- 'waystonelaw02.JournalActs', WHERE WHAT IT READS IS OF BULK AT MOST 1048576: true; the input reads as it did. -/
def journalActsUptoRow : OpenClaim := { program := "ytfhlidlmipleaaa", sum := "78a7054bcd29fa79ab69e13dca6219953035309e15af83006f371fbbd9385b4e", func := "waystone/waystonelaw02.JournalActs", spec := "journalActs", plainKeys := false, apart := false, narrowed := true }
def JournalActsUptoSaid : Prop := journalActsUptoRow.holds Try.pinned (OpenSpec.upto journalActsSpec)

end Rows
end Go.Proofs.Ytfhlidlmipleaaa
