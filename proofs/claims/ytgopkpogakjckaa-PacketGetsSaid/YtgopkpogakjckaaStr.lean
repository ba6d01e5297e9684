/-
  'string(b)' of bytes, at this program.
-/
import Derived.Test.YtgopkpogakjckaaSums
namespace Go.Proofs.Ytgopkpogakjckaa
set_option linter.unusedVariables false
set_option linter.unusedSimpArgs false
open Go.RowKit SM

theorem bstr {w : World} {A : Option Addr} {n c : Nat} {l : List UInt8} (h : Sl w 1 (.slice A n c) (B8 l)) : (convert 31 9 (.slice A n c)).run Try.prog w = .ok (.string (S8 l)) w :=
  str_of h _ _ 5 Try.underlying31 Try.underlying5 Try.underlying9
end Go.Proofs.Ytgopkpogakjckaa
