/- Layer 3 in plain Lean: digits of four bits, packed and zoned fields; no program in sight. -/
import Init.Data.List.Lemmas
namespace Go.Proofs.YtjedikaidbobdaaGreatDoor

abbrev Bs := List UInt8

def pairs : List Nat → Bs
  | a :: b :: l => UInt8.ofNat (16 * a + b) :: pairs l
  | _ => []

end Go.Proofs.YtjedikaidbobdaaGreatDoor
