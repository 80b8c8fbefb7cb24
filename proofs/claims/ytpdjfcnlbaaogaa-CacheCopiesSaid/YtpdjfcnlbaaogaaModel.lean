/- The plain model of a cache: an association list in the order of use, a budget and a count of evictions. No Go and no memory. -/
import Derived.WalkKit
namespace Go.Proofs.Ytpdjfcnlbaaogaa
open Go.RowKit
namespace Mo

structure Ky where
  node : Int
  stamp : Int
  level : Int
  x : Int
  y : Int
  deriving DecidableEq

structure Px where
  r : Int
  g : Int
  b : Int
  a : Int
  deriving DecidableEq

structure Im where
  w : Int
  h : Int
  pix : List Px
  deriving DecidableEq

structure Ca where
  bud : Int
  l : List (Ky × Im)
  ev : Int
  deriving DecidableEq

def lim (n : Int) : Int := min (max n 0) 1024
def new (n : Int) : Ca := ⟨lim n, [], 0⟩
def keys (s : Ca) : List Ky := s.l.map (·.1)
def look {α : Type} (k : Ky) (l : List (Ky × α)) : Option α := (l.find? (fun p => p.1 == k)).map (·.2)
def rm (k : Ky) (l : List (Ky × Im)) : List (Ky × Im) := l.filter (fun p => !(p.1 == k))
def over (s : Ca) : Nat := s.l.length - s.bud.toNat
def shrink (s : Ca) : Ca := { s with l := s.l.drop (over s), ev := wrap64 (s.ev + (over s : Nat)) }
def use (k : Ky) (i : Im) (s : Ca) : Ca := { s with l := rm k s.l ++ [(k, i)] }
def get (k : Ky) (s : Ca) : Ca := match look k s.l with
  | none => s
  | some i => use k i s
def put (k : Ky) (i : Im) (s : Ca) : Ca := if s.bud = 0 then s else shrink (use k i s)
def drop (n : Int) (s : Ca) : Ca := { s with l := s.l.filter (fun p => !(p.1.node == n)) }
def dropped (n : Int) (s : Ca) : Nat := (s.l.filter (fun p => p.1.node == n)).length
def remove (k : Ky) (s : Ca) : Ca := { s with l := rm k s.l }
def resize (n : Int) (s : Ca) : Ca := shrink { s with bud := lim n }

/-- What holds of every cache that is made. -/
structure Ok (s : Ca) : Prop where
  b0 : 0 ≤ s.bud
  b1 : s.bud ≤ 1024
  len : (s.l.length : Int) ≤ s.bud
  nd : (s.l.map (·.1)).Nodup

end Mo
end Go.Proofs.Ytpdjfcnlbaaogaa
