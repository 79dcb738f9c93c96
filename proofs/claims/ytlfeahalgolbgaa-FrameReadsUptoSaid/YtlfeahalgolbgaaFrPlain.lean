/-
  Plain: what a frame's bytes are.
-/
import Derived.Test.YtlfeahalgolbgaaPlain
namespace Go.Proofs.Ytlfeahalgolbgaa

/-- a sum's four bytes -/
def le4 (s : W32) : List B8 := [s.setWidth 8, (s >>> 8).setWidth 8, (s >>> 16).setWidth 8, (s >>> 24).setWidth 8]

/-- a frame's first four bytes -/
def hd4 (kind : B8) (n : Nat) : List B8 := [kind, BitVec.ofNat 8 n, BitVec.ofNat 8 (n / 256), BitVec.ofNat 8 (n / 65536)]

/-- a frame's bytes -/
def frB (kind : B8) (body : List B8) : List B8 :=
  hd4 kind body.length ++ (le4 (sumOf (hd4 kind body.length)) ++ (body ++ le4 (more (sumOf (hd4 kind body.length)) body)))

theorem frB_length (kind : B8) (body : List B8) : (frB kind body).length = body.length + 12 := by
  simp [frB, hd4, le4]

end Go.Proofs.Ytlfeahalgolbgaa
