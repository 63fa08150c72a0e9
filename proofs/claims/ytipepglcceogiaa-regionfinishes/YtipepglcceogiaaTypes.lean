/- the structures -/
import Derived.Test.YtipepglcceogiaaRows
import Derived.Test.YtipepglcceogiaaSkY
namespace Go.Sk
structure Holding where
  Body : Int
  Epoch : Int
  Phase : Int
  Peer : Int
  Data : Str
  deriving DecidableEq, Inhabited
def eHolding (x : Holding) : List CP := [.i x.Body, .i x.Epoch, .i x.Phase, .i x.Peer, .str x.Data]
structure Parcel where
  From : Int
  To : Int
  Kind : Int
  Body : Int
  Epoch : Int
  Data : Str
  deriving DecidableEq, Inhabited
def eParcel (x : Parcel) : List CP := [.i x.From, .i x.To, .i x.Kind, .i x.Body, .i x.Epoch, .str x.Data]
structure Rule where
  kind : Int
  next : Nat
  deriving DecidableEq, Inhabited
def eRule (x : Rule) : List CP := [.i x.kind, .raw (.func (.func x.next) #[] #[])]
structure Known where
  L : List Holding
  Sent : List Parcel
  E : Int
  deriving DecidableEq, Inhabited
def eKnown (x : Known) : List CP := [.sl 5 (x.L.map eHolding), .sl 6 (x.Sent.map eParcel), .i x.E]
structure ROp where
  Kind : Int
  Node : Int
  To : Int
  N : Int
  deriving DecidableEq, Inhabited
def eROp (x : ROp) : List CP := [.i x.Kind, .i x.Node, .i x.To, .i x.N]
end Go.Sk
