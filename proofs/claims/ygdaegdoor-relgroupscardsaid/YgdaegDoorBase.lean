import Derived.Test.YgdaegDoorProg
import Derived.WalkKit
import Derived.WalkSpells
import Derived.WalkLawsBesides
import Derived.Laws.Externs
set_option linter.unusedSimpArgs false
set_option linter.unusedVariables false
namespace Go.Proofs.YgdaegDoor
open Go.RowKit

theorem run_store_float {P : Program} {w : World} {a : Addr} {m : Mode} (k : FloatKind) (n : Nat) :
    (store a (.float k n) m).run P w = stored P w a (.float k n) m := run_store P w a _ m rfl

/-- A SQL value: kind, integer, the bits of a float, text. -/
structure V where
  k : Int
  i : Int
  r : Nat
  s : ByteArray

def V.list (v : V) : List Value := [.int .u8 v.k, .int .i64 v.i, .float .f64 v.r, .string v.s]
def V.val (v : V) : Value := .agg #[.int .u8 v.k, .int .i64 v.i, .float .f64 v.r, .string v.s]
def V0 : V := ⟨0, 0, 0, ⟨#[]⟩⟩

def nanB (n : Nat) : Bool := decide (9218868437227405312 < Go.bits BinOp.andNot IntKind.u64 (n : Int) 9223372036854775808)
def nzB (n : Nat) : Bool := (n : Int) == 9223372036854775808

end Go.Proofs.YgdaegDoor
