/- The acts that bytes say, in plain Lean. -/
import Derived.Test.YtjkiofgllmjkcaaSn
namespace Go.Proofs.Ytjkiofgllmjkcaa.G
open Go.RowKit Go.Proofs.Ytjkiofgllmjkcaa.WordPlain
set_option linter.unusedVariables false

/-- so many bytes -/
def rdTake (n : Nat) (L : List UInt8) : Except Int (List UInt8 × List UInt8) := if n ≤ L.length then .ok (L.take n, L.drop n) else .error 6
def rdNum (n : Nat) (L : List UInt8) : Except Int (Nat × List UInt8) := if n ≤ L.length then .ok (wgl (L.take n), L.drop n) else .error 6
def rdText (L : List UInt8) : Except Int (ByteArray × List UInt8) :=
  match rdNum 1 L with
  | .error e => .error e
  | .ok (n, M) => match rdTake n M with
    | .error e => .error e
    | .ok (s, R) => .ok (⟨s.toArray⟩, R)
def rdBools : Nat → List UInt8 → Except Int (List Bool × List UInt8)
  | 0, L => .ok ([], L)
  | c + 1, L => match rdNum 1 L with
    | .error e => .error e
    | .ok (k, M) => if 1 < k then .error 5 else match rdBools c M with
      | .error e => .error e
      | .ok (r, R) => .ok ((k == 1) :: r, R)
def rdAsk (L : List UInt8) : Except Int (Ac × List UInt8) :=
  match rdNum 1 L with
  | .error e => .error e
  | .ok (rk, L1) => match rdText L1 with
    | .error e => .error e
    | .ok (id, L2) => match rdText L2 with
      | .error e => .error e
      | .ok (va, L3) => match rdNum 8 L3 with
        | .error e => .error e
        | .ok (ttl, L4) => match rdNum 1 L4 with
          | .error e => .error e
          | .ok (pick, L5) => .ok ({ Ac.zero with rk := rk, id := id, va := va, ttl := ttl, pick := pick }, L5)
def rdN (k : Int) (b : Nat) (L : List UInt8) : Except Int (Ac × List UInt8) :=
  match rdNum b L with
  | .error e => .error e
  | .ok (n, M) => .ok ({ Ac.zero with kind := k, n := n }, M)
def rdCrash (L : List UInt8) : Except Int (Ac × List UInt8) :=
  match rdNum 1 L with
  | .error e => .error e
  | .ok (c, L1) => match rdBools c L1 with
    | .error e => .error e
    | .ok (keep, L2) => match rdNum 2 L2 with
      | .error e => .error e
      | .ok (torn, L3) => match rdNum 1 L3 with
        | .error e => .error e
        | .ok (pl, L4) => if 128 < pl then .error 5 else match rdNum 8 L4 with
          | .error e => .error e
          | .ok (n, L5) => .ok ({ Ac.zero with kind := 5, n := n, keep := keep, torn := torn, pl := pl }, L5)
def rdOne (L : List UInt8) : Except Int (Ac × List UInt8) :=
  match rdNum 1 L with
  | .error e => .error e
  | .ok (k, M) =>
    if 6 ≤ k then .error 5
    else if k = 0 then rdAsk M
    else if k = 1 then rdN 1 8 M
    else if k = 2 then rdN 2 1 M
    else if k = 4 then rdN 4 2 M
    else if k = 5 then rdCrash M
    else .ok ({ Ac.zero with kind := 3 }, M)
/-- of at most so many acts (each takes a byte) -/
def rdAll : Nat → List UInt8 → Except Int (List Ac)
  | _, [] => .ok []
  | 0, _ :: _ => .error 6
  | f + 1, c :: L => match rdOne (c :: L) with
    | .error e => .error e
    | .ok (a, R) => match rdAll f R with
      | .error e => .error e
      | .ok l => .ok (a :: l)
def decA (s : ByteArray) : List Ac := match rdAll s.data.toList.length s.data.toList with | .ok l => l | .error _ => []
def decX (s : ByteArray) : Int := match rdAll s.data.toList.length s.data.toList with | .ok _ => 0 | .error e => e
end Go.Proofs.Ytjkiofgllmjkcaa.G
