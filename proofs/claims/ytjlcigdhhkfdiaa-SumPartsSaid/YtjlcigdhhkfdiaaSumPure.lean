/-
  Plain functions and facts of the two sums of bytes: no program in sight.
-/
namespace Go.Proofs.Ytjlcigdhhkfdiaa
namespace Sm

/-- one byte, in 32 bits, nothing left off -/
def stepW (h : Int × Int) (c : UInt8) : Int × Int := ((h.1 + (c.toNat : Int)) % 4294967296, (h.2 + (h.1 + (c.toNat : Int))) % 4294967296)
/-- a piece: its bytes, then what is left of both -/
def piece (h : Int × Int) (l : List UInt8) : Int × Int := (Int.tmod (l.foldl stepW h).1 65521, Int.tmod (l.foldl stepW h).2 65521)
/-- all pieces of a text -/
def pieces : Nat → Int × Int → List UInt8 → Int × Int
  | 0, h, _ => h
  | k + 1, h, l => if 2048 < l.length then pieces k (piece h (l.take 2048)) (l.drop 2048) else piece h l
end Sm
end Go.Proofs.Ytjlcigdhhkfdiaa
