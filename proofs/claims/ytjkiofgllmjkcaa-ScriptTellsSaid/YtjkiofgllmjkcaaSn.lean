/- The bytes of an act, in plain Lean. -/
import Derived.Test.YtjkiofgllmjkcaaSm
namespace Go.Proofs.Ytjkiofgllmjkcaa.G
open Go.RowKit Go.Proofs.Ytjkiofgllmjkcaa.WordPlain
set_option linter.unusedVariables false
def txt (s : ByteArray) : ByteArray := wput s.size 1 ++ s
def kb (l : List Bool) : ByteArray := ⟨(l.map fun b => if b then (1 : UInt8) else 0).toArray⟩
def Ac.bytes (a : Ac) : ByteArray :=
  if a.kind = 0 then wput a.kind.toNat 1 ++ ((((wput a.rk.toNat 1 ++ txt a.id) ++ txt a.va) ++ wput a.ttl 8) ++ wput a.pick.toNat 1)
  else if a.kind = 1 then wput a.kind.toNat 1 ++ wput a.n 8
  else if a.kind = 2 then wput a.kind.toNat 1 ++ wput a.n 1
  else if a.kind = 4 then wput a.kind.toNat 1 ++ wput a.n 2
  else if a.kind = 5 then wput a.kind.toNat 1 ++ (((txt (kb a.keep) ++ wput a.torn.toNat 2) ++ wput a.pl.toNat 1) ++ wput a.n 8)
  else wput a.kind.toNat 1
theorem txt_size (s : ByteArray) : (txt s).size = 1 + s.size := by unfold txt; rw [ByteArray.size_append, wput_size]
theorem kb_size (l : List Bool) : (kb l).size = l.length := by simp [kb, ByteArray.size]
end Go.Proofs.Ytjkiofgllmjkcaa.G
