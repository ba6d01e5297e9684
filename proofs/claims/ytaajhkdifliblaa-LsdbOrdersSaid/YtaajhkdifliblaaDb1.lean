/-
  A map of Key: its operations where no entry is there, or just one.
-/
import Derived.Test.YtaajhkdifliblaaLsa25
import Derived.Maps.Own
namespace Go.Proofs.Ytaajhkdifliblaa
set_option linter.unusedVariables false
set_option linter.unusedSimpArgs false
open Go Go.RowKit SM LM

abbrev keyV (a b c : Int) : Value := .agg #[.int .i64 a, .int .u32 b, .int .u32 c]
theorem checkKn (n : Nat) (e : Bool) (a b c : Int) (w : World) : (Instr.checkKey e (n + 2) 77 (keyV a b c)).run Try.prog w = .ok () w := by
  simp [Instr.checkKey, run_underlying Try.underlying77, run_underlying Try.underlying3, run_underlying Try.underlying48, go_sem]
theorem checkK (e : Bool) (a b c : Int) (w : World) : (Instr.checkKey e 10000 77 (keyV a b c)).run Try.prog w = .ok () w := checkKn 9998 e a b c w
theorem equalKn (n : Nat) (a b c : Int) (w : World) : (Op.equalIn (n + 2) 77 (keyV a b c) (keyV a b c)).run Try.prog w = .ok true w := by
  simp [Op.equalIn, run_underlying Try.underlying77, run_underlying Try.underlying3, run_underlying Try.underlying48, go_sem]
theorem equalK (a b c : Int) (w : World) : (Op.equal 77 (keyV a b c) (keyV a b c)).run Try.prog w = .ok true w := equalKn 9998 a b c w
theorem findK0 (a b c : Int) (w : World) : (Instr.findKey 77 (keyV a b c) []).run Try.prog w = .ok none w := by
  simp [Instr.findKey, Instr.findNow, run_underlying Try.underlying77]
theorem findK1 (a b c : Int) (v : Value) (n : Nat) (w : World) : (Instr.findKey 77 (keyV a b c) [⟨keyV a b c, v, n⟩]).run Try.prog w = .ok (some (0, v)) w := by
  simp [Instr.findKey, Instr.findNow, Instr.sameNow, Instr.findAsking, run_underlying Try.underlying77, equalK]
theorem sameBitsK (n : Nat) (a b c : Int) : Instr.sameBits (n + 2) (keyV a b c) (keyV a b c) = true := by
  simp [Instr.sameBits]
abbrev zeroOne : Value := .agg #[.int .i64 0, .int .i64 0, .int .u32 0, .int .u32 0, .int .i64 0, .slice none 0 0, .int .u32 0, .slice none 0 0, .int .i64 0, .int .i64 0, .int .i64 0, .int .u32 0, .int .u32 0, .int .i64 0, .int .u16 0, .int .i64 0]
theorem dlook0 {w : World} {r clk : Nat} (hb : w.heap[r]? = some (.map #[] clk)) (a b c : Int) : (Instr.lookup 147 (.map (some r)) (keyV a b c) true).run Try.prog w = .ok (.tuple #[zeroOne, .bool false]) w := by
  simp [Instr.lookup, run_underlying Try.underlying147, MapKept.run_getObj_map hb, checkK, findK0, Try.zeroValue152, Result.andThen]
theorem dlook1 {w : World} {r clk n : Nat} {a b c : Int} {v : Value} (hb : w.heap[r]? = some (.map #[⟨keyV a b c, v, n⟩] clk)) : (Instr.lookup 147 (.map (some r)) (keyV a b c) true).run Try.prog w = .ok (.tuple #[v, .bool true]) w := by
  simp [Instr.lookup, run_underlying Try.underlying147, MapKept.run_getObj_map hb, checkK, findK1, Result.andThen]
theorem dupd0 {w : World} {r clk : Nat} (hb : w.heap[r]? = some (.map #[] clk)) (a b c : Int) (v : Value) : (Instr.mapUpdate 147 (.map (some r)) (keyV a b c) v).run Try.prog w = .ok () (Go.ChangeMaps.setBlock w r (.map #[⟨keyV a b c, v, clk⟩] (clk + 1))) := by
  simp [Instr.mapUpdate, run_underlying Try.underlying147, MapKept.run_getObj_map hb, checkK, findK0, Result.andThen, setObj, Sem.run, hb, Go.ChangeMaps.setBlock]
theorem dupd1 {w : World} {r clk n : Nat} {a b c : Int} {v0 : Value} (hb : w.heap[r]? = some (.map #[⟨keyV a b c, v0, n⟩] clk)) (v : Value) : (Instr.mapUpdate 147 (.map (some r)) (keyV a b c) v).run Try.prog w = .ok () (Go.ChangeMaps.setBlock w r (.map #[⟨keyV a b c, v, n⟩] clk)) := by
  have hs : Instr.sameBits 10000 (keyV a b c) (keyV a b c) = true := sameBitsK 9998 a b c
  simp [Instr.mapUpdate, run_underlying Try.underlying147, MapKept.run_getObj_map hb, checkK, findK1, Result.andThen, setObj, Sem.run, hb, Go.ChangeMaps.setBlock, Instr.keyThatStays, hs]
end Go.Proofs.Ytaajhkdifliblaa
