/-
  What 'abc' and the empty text hash to: reckoned by the kernel.
-/
import Derived.Test.YtmgnigofilkfmaaSha
namespace Go.Proofs.Ytmgnigofilkfmaa
set_option maxRecDepth 100000
def hexChar (n : Nat) : UInt8 := if n < 10 then UInt8.ofNat (48 + n) else UInt8.ofNat (87 + n)
def hexOf (L : List UInt8) : List UInt8 := L.flatMap fun b => [hexChar (b.toNat / 16), hexChar (b.toNat % 16)]
theorem sha_abc : hexOf (sha [97, 98, 99]) = "ba7816bf8f01cfea414140de5dae2223b00361a396177a9cb410ff61f20015ad".toUTF8.data.toList := by decide +kernel
theorem sha_empty : (hexOf (sha [])).take 8 = "e3b0c442".toUTF8.data.toList := by decide +kernel
end Go.Proofs.Ytmgnigofilkfmaa
