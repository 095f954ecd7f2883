import Derived.Test.YtniciinhflolnaaDoorME
import Derived.Test.YtniciinhflolnaaDoorChecked
import Derived.KernelRfl
namespace Go.Proofs.YtniciinhflolnaaDoor
open Go Go.Fm
set_option maxRecDepth 100000
/-- What the library holds of its blanks. -/
def gtAscii : List Int := [0, 0, 0, 0, 0, 0, 0, 0, 0, 1, 1, 1, 1, 1, 0, 0, 0, 0, 0, 0, 0, 0, 0, 0, 0, 0, 0, 0, 0, 0, 0, 0, 1, 0, 0, 0, 0, 0, 0, 0, 0, 0, 0, 0, 0, 0, 0, 0, 0, 0, 0, 0, 0, 0, 0, 0, 0, 0, 0, 0, 0, 0, 0, 0, 0, 0, 0, 0, 0, 0, 0, 0, 0, 0, 0, 0, 0, 0, 0, 0, 0, 0, 0, 0, 0, 0, 0, 0, 0, 0, 0, 0, 0, 0, 0, 0, 0, 0, 0, 0, 0, 0, 0, 0, 0, 0, 0, 0, 0, 0, 0, 0, 0, 0, 0, 0, 0, 0, 0, 0, 0, 0, 0, 0, 0, 0, 0, 0, 0, 0, 0, 0, 0, 0, 0, 0, 0, 0, 0, 0, 0, 0, 0, 0, 0, 0, 0, 0, 0, 0, 0, 0, 0, 0, 0, 0, 0, 0, 0, 0, 0, 0, 0, 0, 0, 0, 0, 0, 0, 0, 0, 0, 0, 0, 0, 0, 0, 0, 0, 0, 0, 0, 0, 0, 0, 0, 0, 0, 0, 0, 0, 0, 0, 0, 0, 0, 0, 0, 0, 0, 0, 0, 0, 0, 0, 0, 0, 0, 0, 0, 0, 0, 0, 0, 0, 0, 0, 0, 0, 0, 0, 0, 0, 0, 0, 0, 0, 0, 0, 0, 0, 0, 0, 0, 0, 0, 0, 0, 0, 0, 0, 0, 0, 0, 0, 0, 0, 0, 0, 0, 0, 0, 0, 0, 0, 0]
noncomputable instance : Globs := ⟨fun g => match g with | 0 => some (gtAscii.flatMap (eI .u8)) | _ => none⟩
theorem glob_0 : Globs.tab 0 = some (gtAscii.flatMap (eI .u8)) := rfl
/-- What the machine knows of the program's types. -/
noncomputable def TrydT (t : TypeId) : TyI := match Nat.blt t 82 with
  | false => tiOf Tryd.prog t
  | true => (match Nat.blt t 41 with
  | true => (match Nat.blt t 20 with
   | true => (match Nat.blt t 10 with
    | true => (match Nat.blt t 5 with
     | true => (match Nat.blt t 2 with
      | true => (match Nat.blt t 1 with
       | true => ⟨.other, (some 1), (some 0), (some false), [], none, none, false⟩
       | false => ⟨.other, (some 1), (some 8), (some false), [], (some [.dead]), none, false⟩)
      | false => (match Nat.blt t 3 with
       | true => ⟨(.int .i64), (some 1), (some 8), (some false), [], (some [(.int .i64 0)]), none, false⟩
       | false => (match Nat.blt t 4 with
        | true => ⟨(.int .i64), (some 1), (some 8), (some false), [], (some [(.int .i64 0)]), none, false⟩
        | false => ⟨.bool, (some 1), (some 1), (some false), [], (some [(.bool false)]), none, false⟩)))
     | false => (match Nat.blt t 7 with
      | true => (match Nat.blt t 6 with
       | true => ⟨(.int .u8), (some 1), (some 1), (some false), [], (some [(.int .u8 0)]), none, false⟩
       | false => ⟨(.int .u8), (some 1), (some 1), (some false), [], (some [(.int .u8 0)]), none, false⟩)
      | false => (match Nat.blt t 8 with
       | true => ⟨.agg, (some 4), (some 24), (some true), [(0, 2), (1, 3), (2, 4), (3, 6)], (some [(.int .i64 0), (.int .i64 0), (.bool false), (.int .u8 0)]), (some [0, 0, 1, 0]), true⟩
       | false => (match Nat.blt t 9 with
        | true => ⟨.agg, (some 4), (some 24), (some true), [(0, 2), (1, 3), (2, 4), (3, 6)], (some [(.int .i64 0), (.int .i64 0), (.bool false), (.int .u8 0)]), (some [0, 0, 1, 0]), true⟩
        | false => ⟨.str, (some 1), (some 16), (some false), [], (some [(.str [])]), none, false⟩))))
    | false => (match Nat.blt t 15 with
     | true => (match Nat.blt t 12 with
      | true => (match Nat.blt t 11 with
       | true => ⟨.str, (some 1), (some 16), (some false), [], (some [(.str [])]), none, false⟩
       | false => ⟨.str, (some 1), (some 16), (some false), [], (some [(.str [])]), none, false⟩)
      | false => (match Nat.blt t 13 with
       | true => ⟨(.int .u64), (some 1), (some 8), (some false), [], (some [(.int .u64 0)]), none, false⟩
       | false => (match Nat.blt t 14 with
        | true => ⟨.agg, (some 2), (some 24), (some true), [(0, 9), (1, 12)], (some [(.str []), (.int .u64 0)]), none, true⟩
        | false => ⟨.agg, (some 2), (some 24), (some true), [(0, 9), (1, 12)], (some [(.str []), (.int .u64 0)]), none, true⟩)))
     | false => (match Nat.blt t 17 with
      | true => (match Nat.blt t 16 with
       | true => ⟨.other, (some 1), (some 8), (some false), [], (some [.nilp]), none, false⟩
       | false => ⟨.other, (some 1), (some 8), (some false), [], (some [.nilp]), none, false⟩)
      | false => (match Nat.blt t 18 with
       | true => ⟨.other, (some 1), (some 8), (some false), [], (some [.nilp]), none, false⟩
       | false => (match Nat.blt t 19 with
        | true => ⟨.agg, (some 1), (some 8), (some true), [(0, 17)], (some [.nilp]), none, true⟩
        | false => ⟨.agg, (some 1), (some 8), (some true), [(0, 17)], (some [.nilp]), none, true⟩)))))
   | false => (match Nat.blt t 30 with
    | true => (match Nat.blt t 25 with
     | true => (match Nat.blt t 22 with
      | true => (match Nat.blt t 21 with
       | true => ⟨.iface, (some 1), (some 16), (some false), [], (some [.nili]), none, false⟩
       | false => ⟨(.int .i32), (some 1), (some 4), (some false), [], (some [(.int .i32 0)]), none, false⟩)
      | false => (match Nat.blt t 23 with
       | true => ⟨(.slice 32), (some 1), (some 24), (some false), [], (some [.emp]), none, false⟩
       | false => (match Nat.blt t 24 with
        | true => ⟨.other, (some 1), (some 8), (some false), [], (some [.dead]), none, false⟩
        | false => ⟨.other, (some 1), (some 8), (some false), [], (some [.dead]), none, false⟩)))
     | false => (match Nat.blt t 27 with
      | true => (match Nat.blt t 26 with
       | true => ⟨(.slice 30), (some 1), (some 24), (some false), [], (some [.emp]), none, false⟩
       | false => ⟨.other, (some 1), (some 8), (some false), [], (some [.dead]), none, false⟩)
      | false => (match Nat.blt t 28 with
       | true => ⟨.other, (some 1), (some 8), (some false), [], (some [.dead]), none, false⟩
       | false => (match Nat.blt t 29 with
        | true => ⟨.other, (some 1), (some 8), (some false), [], (some [.dead]), none, false⟩
        | false => ⟨.agg, (some 2), (some 16), (some true), [(0, 3), (1, 21)], (some [(.int .i64 0), (.int .i32 0)]), (some [0, 0]), true⟩))))
    | false => (match Nat.blt t 35 with
     | true => (match Nat.blt t 32 with
      | true => (match Nat.blt t 31 with
       | true => ⟨.agg, (some 2), (some 16), (some true), [(0, 3), (1, 21)], (some [(.int .i64 0), (.int .i32 0)]), (some [0, 0]), true⟩
       | false => ⟨.other, (some 1), (some 8), (some false), [], (some [.dead]), none, false⟩)
      | false => (match Nat.blt t 33 with
       | true => ⟨.agg, (some 2), (some 16), (some true), [(0, 3), (1, 21)], (some [(.int .i64 0), (.int .i32 0)]), (some [0, 0]), true⟩
       | false => (match Nat.blt t 34 with
        | true => ⟨.other, (some 1), (some 8), (some false), [], (some [.dead]), none, false⟩
        | false => ⟨.other, (some 1), (some 8), (some false), [], (some [.dead]), none, false⟩)))
     | false => (match Nat.blt t 38 with
      | true => (match Nat.blt t 36 with
       | true => ⟨(.slice 3), (some 1), (some 24), (some false), [], (some [.emp]), none, false⟩
       | false => (match Nat.blt t 37 with
        | true => ⟨.other, (some 1), (some 0), (some false), [], none, none, false⟩
        | false => ⟨.other, (some 1), (some 8), (some false), [], (some [.dead]), none, false⟩))
      | false => (match Nat.blt t 39 with
       | true => ⟨.other, (some 1), (some 8), (some false), [], (some [.dead]), none, false⟩
       | false => (match Nat.blt t 40 with
        | true => ⟨.other, (some 1), (some 8), (some false), [], (some [.dead]), none, false⟩
        | false => ⟨(.slice 9), (some 1), (some 24), (some false), [], (some [.emp]), none, false⟩))))))
  | false => (match Nat.blt t 61 with
   | true => (match Nat.blt t 51 with
    | true => (match Nat.blt t 46 with
     | true => (match Nat.blt t 43 with
      | true => (match Nat.blt t 42 with
       | true => ⟨.other, (some 1), (some 8), (some false), [], (some [.dead]), none, false⟩
       | false => ⟨.other, (some 1), (some 8), (some false), [], (some [.dead]), none, false⟩)
      | false => (match Nat.blt t 44 with
       | true => ⟨(.tarr 256 5), (some 256), (some 256), (some true), [], (some [(.int .u8 0), (.int .u8 0), (.int .u8 0), (.int .u8 0), (.int .u8 0), (.int .u8 0), (.int .u8 0), (.int .u8 0), (.int .u8 0), (.int .u8 0), (.int .u8 0), (.int .u8 0), (.int .u8 0), (.int .u8 0), (.int .u8 0), (.int .u8 0), (.int .u8 0), (.int .u8 0), (.int .u8 0), (.int .u8 0), (.int .u8 0), (.int .u8 0), (.int .u8 0), (.int .u8 0), (.int .u8 0), (.int .u8 0), (.int .u8 0), (.int .u8 0), (.int .u8 0), (.int .u8 0), (.int .u8 0), (.int .u8 0), (.int .u8 0), (.int .u8 0), (.int .u8 0), (.int .u8 0), (.int .u8 0), (.int .u8 0), (.int .u8 0), (.int .u8 0), (.int .u8 0), (.int .u8 0), (.int .u8 0), (.int .u8 0), (.int .u8 0), (.int .u8 0), (.int .u8 0), (.int .u8 0), (.int .u8 0), (.int .u8 0), (.int .u8 0), (.int .u8 0), (.int .u8 0), (.int .u8 0), (.int .u8 0), (.int .u8 0), (.int .u8 0), (.int .u8 0), (.int .u8 0), (.int .u8 0), (.int .u8 0), (.int .u8 0), (.int .u8 0), (.int .u8 0), (.int .u8 0), (.int .u8 0), (.int .u8 0), (.int .u8 0), (.int .u8 0), (.int .u8 0), (.int .u8 0), (.int .u8 0), (.int .u8 0), (.int .u8 0), (.int .u8 0), (.int .u8 0), (.int .u8 0), (.int .u8 0), (.int .u8 0), (.int .u8 0), (.int .u8 0), (.int .u8 0), (.int .u8 0), (.int .u8 0), (.int .u8 0), (.int .u8 0), (.int .u8 0), (.int .u8 0), (.int .u8 0), (.int .u8 0), (.int .u8 0), (.int .u8 0), (.int .u8 0), (.int .u8 0), (.int .u8 0), (.int .u8 0), (.int .u8 0), (.int .u8 0), (.int .u8 0), (.int .u8 0), (.int .u8 0), (.int .u8 0), (.int .u8 0), (.int .u8 0), (.int .u8 0), (.int .u8 0), (.int .u8 0), (.int .u8 0), (.int .u8 0), (.int .u8 0), (.int .u8 0), (.int .u8 0), (.int .u8 0), (.int .u8 0), (.int .u8 0), (.int .u8 0), (.int .u8 0), (.int .u8 0), (.int .u8 0), (.int .u8 0), (.int .u8 0), (.int .u8 0), (.int .u8 0), (.int .u8 0), (.int .u8 0), (.int .u8 0), (.int .u8 0), (.int .u8 0), (.int .u8 0), (.int .u8 0), (.int .u8 0), (.int .u8 0), (.int .u8 0), (.int .u8 0), (.int .u8 0), (.int .u8 0), (.int .u8 0), (.int .u8 0), (.int .u8 0), (.int .u8 0), (.int .u8 0), (.int .u8 0), (.int .u8 0), (.int .u8 0), (.int .u8 0), (.int .u8 0), (.int .u8 0), (.int .u8 0), (.int .u8 0), (.int .u8 0), (.int .u8 0), (.int .u8 0), (.int .u8 0), (.int .u8 0), (.int .u8 0), (.int .u8 0), (.int .u8 0), (.int .u8 0), (.int .u8 0), (.int .u8 0), (.int .u8 0), (.int .u8 0), (.int .u8 0), (.int .u8 0), (.int .u8 0), (.int .u8 0), (.int .u8 0), (.int .u8 0), (.int .u8 0), (.int .u8 0), (.int .u8 0), (.int .u8 0), (.int .u8 0), (.int .u8 0), (.int .u8 0), (.int .u8 0), (.int .u8 0), (.int .u8 0), (.int .u8 0), (.int .u8 0), (.int .u8 0), (.int .u8 0), (.int .u8 0), (.int .u8 0), (.int .u8 0), (.int .u8 0), (.int .u8 0), (.int .u8 0), (.int .u8 0), (.int .u8 0), (.int .u8 0), (.int .u8 0), (.int .u8 0), (.int .u8 0), (.int .u8 0), (.int .u8 0), (.int .u8 0), (.int .u8 0), (.int .u8 0), (.int .u8 0), (.int .u8 0), (.int .u8 0), (.int .u8 0), (.int .u8 0), (.int .u8 0), (.int .u8 0), (.int .u8 0), (.int .u8 0), (.int .u8 0), (.int .u8 0), (.int .u8 0), (.int .u8 0), (.int .u8 0), (.int .u8 0), (.int .u8 0), (.int .u8 0), (.int .u8 0), (.int .u8 0), (.int .u8 0), (.int .u8 0), (.int .u8 0), (.int .u8 0), (.int .u8 0), (.int .u8 0), (.int .u8 0), (.int .u8 0), (.int .u8 0), (.int .u8 0), (.int .u8 0), (.int .u8 0), (.int .u8 0), (.int .u8 0), (.int .u8 0), (.int .u8 0), (.int .u8 0), (.int .u8 0), (.int .u8 0), (.int .u8 0), (.int .u8 0), (.int .u8 0), (.int .u8 0), (.int .u8 0), (.int .u8 0), (.int .u8 0), (.int .u8 0), (.int .u8 0), (.int .u8 0), (.int .u8 0), (.int .u8 0), (.int .u8 0), (.int .u8 0), (.int .u8 0), (.int .u8 0), (.int .u8 0), (.int .u8 0), (.int .u8 0)]), none, false⟩
       | false => (match Nat.blt t 45 with
        | true => ⟨.other, (some 1), (some 8), (some false), [], (some [.dead]), none, false⟩
        | false => ⟨.other, (some 1), (some 8), (some false), [], (some [.dead]), none, false⟩)))
     | false => (match Nat.blt t 48 with
      | true => (match Nat.blt t 47 with
       | true => ⟨(.slice 48), (some 1), (some 24), (some false), [], (some [.emp]), none, false⟩
       | false => ⟨.agg, (some 2), (some 16), (some true), [(0, 3), (1, 3)], (some [(.int .i64 0), (.int .i64 0)]), (some [0, 0]), true⟩)
      | false => (match Nat.blt t 49 with
       | true => ⟨.agg, (some 2), (some 16), (some true), [(0, 3), (1, 3)], (some [(.int .i64 0), (.int .i64 0)]), (some [0, 0]), true⟩
       | false => (match Nat.blt t 50 with
        | true => ⟨(.int .u32), (some 1), (some 4), (some false), [], (some [(.int .u32 0)]), none, false⟩
        | false => ⟨.other, (some 1), (some 8), (some false), [], (some [.dead]), none, false⟩))))
    | false => (match Nat.blt t 56 with
     | true => (match Nat.blt t 53 with
      | true => (match Nat.blt t 52 with
       | true => ⟨.other, (some 1), (some 8), (some false), [], (some [.nilp]), none, false⟩
       | false => ⟨(.slice 58), (some 1), (some 24), (some false), [], (some [.emp]), none, false⟩)
      | false => (match Nat.blt t 54 with
       | true => ⟨(.slice 61), (some 1), (some 24), (some false), [], (some [.emp]), none, false⟩
       | false => (match Nat.blt t 55 with
        | true => ⟨.agg, (some 3), (some 56), (some true), [(0, 52), (1, 53), (2, 3)], (some [.emp, .emp, (.int .i64 0)]), none, true⟩
        | false => ⟨.agg, (some 3), (some 56), (some true), [(0, 52), (1, 53), (2, 3)], (some [.emp, .emp, (.int .i64 0)]), none, true⟩)))
     | false => (match Nat.blt t 58 with
      | true => (match Nat.blt t 57 with
       | true => ⟨(.int .u16), (some 1), (some 2), (some false), [], (some [(.int .u16 0)]), none, false⟩
       | false => ⟨.agg, (some 3), (some 6), (some true), [(0, 56), (1, 56), (2, 56)], (some [(.int .u16 0), (.int .u16 0), (.int .u16 0)]), (some [0, 0, 0]), true⟩)
      | false => (match Nat.blt t 59 with
       | true => ⟨.agg, (some 3), (some 6), (some true), [(0, 56), (1, 56), (2, 56)], (some [(.int .u16 0), (.int .u16 0), (.int .u16 0)]), (some [0, 0, 0]), true⟩
       | false => (match Nat.blt t 60 with
        | true => ⟨.other, (some 1), (some 8), (some false), [], (some [.dead]), none, false⟩
        | false => ⟨.agg, (some 3), (some 12), (some true), [(0, 49), (1, 49), (2, 49)], (some [(.int .u32 0), (.int .u32 0), (.int .u32 0)]), (some [0, 0, 0]), true⟩)))))
   | false => (match Nat.blt t 71 with
    | true => (match Nat.blt t 66 with
     | true => (match Nat.blt t 63 with
      | true => (match Nat.blt t 62 with
       | true => ⟨.agg, (some 3), (some 12), (some true), [(0, 49), (1, 49), (2, 49)], (some [(.int .u32 0), (.int .u32 0), (.int .u32 0)]), (some [0, 0, 0]), true⟩
       | false => ⟨.other, (some 1), (some 8), (some false), [], (some [.dead]), none, false⟩)
      | false => (match Nat.blt t 64 with
       | true => ⟨.other, (some 1), (some 8), (some false), [], (some [.nilp]), none, false⟩
       | false => (match Nat.blt t 65 with
        | true => ⟨(.int .u64), (some 1), (some 8), (some false), [], (some [(.int .u64 0)]), none, false⟩
        | false => ⟨.other, (some 1), (some 8), (some false), [], (some [.nilp]), none, false⟩)))
     | false => (match Nat.blt t 68 with
      | true => (match Nat.blt t 67 with
       | true => ⟨.other, (some 1), (some 8), (some false), [], (some [.dead]), none, false⟩
       | false => ⟨.agg, (some 4), (some 40), (some true), [(0, 17), (1, 17), (2, 17), (3, 9)], (some [.nilp, .nilp, .nilp, (.str [])]), none, true⟩)
      | false => (match Nat.blt t 69 with
       | true => ⟨.agg, (some 4), (some 40), (some true), [(0, 17), (1, 17), (2, 17), (3, 9)], (some [.nilp, .nilp, .nilp, (.str [])]), none, true⟩
       | false => (match Nat.blt t 70 with
        | true => ⟨(.tarr 0 16), (some 0), (some 0), (some true), [], (some []), none, false⟩
        | false => ⟨.agg, (some 0), (some 0), (some true), [(0, 69)], (some []), none, true⟩))))
    | false => (match Nat.blt t 76 with
     | true => (match Nat.blt t 73 with
      | true => (match Nat.blt t 72 with
       | true => ⟨.agg, (some 0), (some 0), (some true), [(0, 69)], (some []), none, true⟩
       | false => ⟨.other, (some 1), (some 8), (some false), [], (some [.dead]), none, false⟩)
      | false => (match Nat.blt t 74 with
       | true => ⟨(.int .u8), (some 1), (some 1), (some false), [], (some [(.int .u8 0)]), none, false⟩
       | false => (match Nat.blt t 75 with
        | true => ⟨(.int .u8), (some 1), (some 1), (some false), [], (some [(.int .u8 0)]), none, false⟩
        | false => ⟨.other, (some 1), (some 8), (some false), [], (some [.dead]), none, false⟩)))
     | false => (match Nat.blt t 79 with
      | true => (match Nat.blt t 77 with
       | true => ⟨.other, (some 1), (some 8), (some false), [], (some [.nilp]), none, false⟩
       | false => (match Nat.blt t 78 with
        | true => ⟨(.int .i32), (some 1), (some 4), (some false), [], (some [(.int .i32 0)]), none, false⟩
        | false => ⟨(.int .i32), (some 1), (some 4), (some false), [], (some [(.int .i32 0)]), none, false⟩))
      | false => (match Nat.blt t 80 with
       | true => ⟨.agg, (some 11), (some 48), (some true), [(0, 12), (1, 12), (2, 49), (3, 73), (4, 5), (5, 5), (6, 74), (7, 75), (8, 76), (9, 77), (10, 78)], (some [(.int .u64 0), (.int .u64 0), (.int .u32 0), (.int .u8 0), (.int .u8 0), (.int .u8 0), (.int .u8 0), .dead, .nilp, (.int .i32 0), (.int .i32 0)]), none, true⟩
       | false => (match Nat.blt t 81 with
        | true => ⟨.agg, (some 11), (some 48), (some true), [(0, 12), (1, 12), (2, 49), (3, 73), (4, 5), (5, 5), (6, 74), (7, 75), (8, 76), (9, 77), (10, 78)], (some [(.int .u64 0), (.int .u64 0), (.int .u32 0), (.int .u8 0), (.int .u8 0), (.int .u8 0), (.int .u8 0), .dead, .nilp, (.int .i32 0), (.int .i32 0)]), none, true⟩
        | false => ⟨.other, (some 1), (some 8), (some false), [], (some [.nilp]), none, false⟩)))))))
theorem TrydT_0 : TrydT 0 = ⟨.other, (some 1), (some 0), (some false), [], none, none, false⟩ := rfl
theorem TrydT_1 : TrydT 1 = ⟨.other, (some 1), (some 8), (some false), [], (some [.dead]), none, false⟩ := rfl
theorem TrydT_2 : TrydT 2 = ⟨(.int .i64), (some 1), (some 8), (some false), [], (some [(.int .i64 0)]), none, false⟩ := rfl
theorem TrydT_3 : TrydT 3 = ⟨(.int .i64), (some 1), (some 8), (some false), [], (some [(.int .i64 0)]), none, false⟩ := rfl
theorem TrydT_4 : TrydT 4 = ⟨.bool, (some 1), (some 1), (some false), [], (some [(.bool false)]), none, false⟩ := rfl
theorem TrydT_5 : TrydT 5 = ⟨(.int .u8), (some 1), (some 1), (some false), [], (some [(.int .u8 0)]), none, false⟩ := rfl
theorem TrydT_6 : TrydT 6 = ⟨(.int .u8), (some 1), (some 1), (some false), [], (some [(.int .u8 0)]), none, false⟩ := rfl
theorem TrydT_7 : TrydT 7 = ⟨.agg, (some 4), (some 24), (some true), [(0, 2), (1, 3), (2, 4), (3, 6)], (some [(.int .i64 0), (.int .i64 0), (.bool false), (.int .u8 0)]), (some [0, 0, 1, 0]), true⟩ := rfl
theorem TrydT_8 : TrydT 8 = ⟨.agg, (some 4), (some 24), (some true), [(0, 2), (1, 3), (2, 4), (3, 6)], (some [(.int .i64 0), (.int .i64 0), (.bool false), (.int .u8 0)]), (some [0, 0, 1, 0]), true⟩ := rfl
theorem TrydT_9 : TrydT 9 = ⟨.str, (some 1), (some 16), (some false), [], (some [(.str [])]), none, false⟩ := rfl
theorem TrydT_10 : TrydT 10 = ⟨.str, (some 1), (some 16), (some false), [], (some [(.str [])]), none, false⟩ := rfl
theorem TrydT_11 : TrydT 11 = ⟨.str, (some 1), (some 16), (some false), [], (some [(.str [])]), none, false⟩ := rfl
theorem TrydT_12 : TrydT 12 = ⟨(.int .u64), (some 1), (some 8), (some false), [], (some [(.int .u64 0)]), none, false⟩ := rfl
theorem TrydT_13 : TrydT 13 = ⟨.agg, (some 2), (some 24), (some true), [(0, 9), (1, 12)], (some [(.str []), (.int .u64 0)]), none, true⟩ := rfl
theorem TrydT_14 : TrydT 14 = ⟨.agg, (some 2), (some 24), (some true), [(0, 9), (1, 12)], (some [(.str []), (.int .u64 0)]), none, true⟩ := rfl
theorem TrydT_15 : TrydT 15 = ⟨.other, (some 1), (some 8), (some false), [], (some [.nilp]), none, false⟩ := rfl
theorem TrydT_16 : TrydT 16 = ⟨.other, (some 1), (some 8), (some false), [], (some [.nilp]), none, false⟩ := rfl
theorem TrydT_17 : TrydT 17 = ⟨.other, (some 1), (some 8), (some false), [], (some [.nilp]), none, false⟩ := rfl
theorem TrydT_18 : TrydT 18 = ⟨.agg, (some 1), (some 8), (some true), [(0, 17)], (some [.nilp]), none, true⟩ := rfl
theorem TrydT_19 : TrydT 19 = ⟨.agg, (some 1), (some 8), (some true), [(0, 17)], (some [.nilp]), none, true⟩ := rfl
theorem TrydT_20 : TrydT 20 = ⟨.iface, (some 1), (some 16), (some false), [], (some [.nili]), none, false⟩ := rfl
theorem TrydT_21 : TrydT 21 = ⟨(.int .i32), (some 1), (some 4), (some false), [], (some [(.int .i32 0)]), none, false⟩ := rfl
theorem TrydT_22 : TrydT 22 = ⟨(.slice 32), (some 1), (some 24), (some false), [], (some [.emp]), none, false⟩ := rfl
theorem TrydT_23 : TrydT 23 = ⟨.other, (some 1), (some 8), (some false), [], (some [.dead]), none, false⟩ := rfl
theorem TrydT_24 : TrydT 24 = ⟨.other, (some 1), (some 8), (some false), [], (some [.dead]), none, false⟩ := rfl
theorem TrydT_25 : TrydT 25 = ⟨(.slice 30), (some 1), (some 24), (some false), [], (some [.emp]), none, false⟩ := rfl
theorem TrydT_26 : TrydT 26 = ⟨.other, (some 1), (some 8), (some false), [], (some [.dead]), none, false⟩ := rfl
theorem TrydT_27 : TrydT 27 = ⟨.other, (some 1), (some 8), (some false), [], (some [.dead]), none, false⟩ := rfl
theorem TrydT_28 : TrydT 28 = ⟨.other, (some 1), (some 8), (some false), [], (some [.dead]), none, false⟩ := rfl
theorem TrydT_29 : TrydT 29 = ⟨.agg, (some 2), (some 16), (some true), [(0, 3), (1, 21)], (some [(.int .i64 0), (.int .i32 0)]), (some [0, 0]), true⟩ := rfl
theorem TrydT_30 : TrydT 30 = ⟨.agg, (some 2), (some 16), (some true), [(0, 3), (1, 21)], (some [(.int .i64 0), (.int .i32 0)]), (some [0, 0]), true⟩ := rfl
theorem TrydT_31 : TrydT 31 = ⟨.other, (some 1), (some 8), (some false), [], (some [.dead]), none, false⟩ := rfl
theorem TrydT_32 : TrydT 32 = ⟨.agg, (some 2), (some 16), (some true), [(0, 3), (1, 21)], (some [(.int .i64 0), (.int .i32 0)]), (some [0, 0]), true⟩ := rfl
theorem TrydT_33 : TrydT 33 = ⟨.other, (some 1), (some 8), (some false), [], (some [.dead]), none, false⟩ := rfl
theorem TrydT_34 : TrydT 34 = ⟨.other, (some 1), (some 8), (some false), [], (some [.dead]), none, false⟩ := rfl
theorem TrydT_35 : TrydT 35 = ⟨(.slice 3), (some 1), (some 24), (some false), [], (some [.emp]), none, false⟩ := rfl
theorem TrydT_36 : TrydT 36 = ⟨.other, (some 1), (some 0), (some false), [], none, none, false⟩ := rfl
theorem TrydT_37 : TrydT 37 = ⟨.other, (some 1), (some 8), (some false), [], (some [.dead]), none, false⟩ := rfl
theorem TrydT_38 : TrydT 38 = ⟨.other, (some 1), (some 8), (some false), [], (some [.dead]), none, false⟩ := rfl
theorem TrydT_39 : TrydT 39 = ⟨.other, (some 1), (some 8), (some false), [], (some [.dead]), none, false⟩ := rfl
theorem TrydT_40 : TrydT 40 = ⟨(.slice 9), (some 1), (some 24), (some false), [], (some [.emp]), none, false⟩ := rfl
theorem TrydT_41 : TrydT 41 = ⟨.other, (some 1), (some 8), (some false), [], (some [.dead]), none, false⟩ := rfl
theorem TrydT_42 : TrydT 42 = ⟨.other, (some 1), (some 8), (some false), [], (some [.dead]), none, false⟩ := rfl
theorem TrydT_43 : TrydT 43 = ⟨(.tarr 256 5), (some 256), (some 256), (some true), [], (some [(.int .u8 0), (.int .u8 0), (.int .u8 0), (.int .u8 0), (.int .u8 0), (.int .u8 0), (.int .u8 0), (.int .u8 0), (.int .u8 0), (.int .u8 0), (.int .u8 0), (.int .u8 0), (.int .u8 0), (.int .u8 0), (.int .u8 0), (.int .u8 0), (.int .u8 0), (.int .u8 0), (.int .u8 0), (.int .u8 0), (.int .u8 0), (.int .u8 0), (.int .u8 0), (.int .u8 0), (.int .u8 0), (.int .u8 0), (.int .u8 0), (.int .u8 0), (.int .u8 0), (.int .u8 0), (.int .u8 0), (.int .u8 0), (.int .u8 0), (.int .u8 0), (.int .u8 0), (.int .u8 0), (.int .u8 0), (.int .u8 0), (.int .u8 0), (.int .u8 0), (.int .u8 0), (.int .u8 0), (.int .u8 0), (.int .u8 0), (.int .u8 0), (.int .u8 0), (.int .u8 0), (.int .u8 0), (.int .u8 0), (.int .u8 0), (.int .u8 0), (.int .u8 0), (.int .u8 0), (.int .u8 0), (.int .u8 0), (.int .u8 0), (.int .u8 0), (.int .u8 0), (.int .u8 0), (.int .u8 0), (.int .u8 0), (.int .u8 0), (.int .u8 0), (.int .u8 0), (.int .u8 0), (.int .u8 0), (.int .u8 0), (.int .u8 0), (.int .u8 0), (.int .u8 0), (.int .u8 0), (.int .u8 0), (.int .u8 0), (.int .u8 0), (.int .u8 0), (.int .u8 0), (.int .u8 0), (.int .u8 0), (.int .u8 0), (.int .u8 0), (.int .u8 0), (.int .u8 0), (.int .u8 0), (.int .u8 0), (.int .u8 0), (.int .u8 0), (.int .u8 0), (.int .u8 0), (.int .u8 0), (.int .u8 0), (.int .u8 0), (.int .u8 0), (.int .u8 0), (.int .u8 0), (.int .u8 0), (.int .u8 0), (.int .u8 0), (.int .u8 0), (.int .u8 0), (.int .u8 0), (.int .u8 0), (.int .u8 0), (.int .u8 0), (.int .u8 0), (.int .u8 0), (.int .u8 0), (.int .u8 0), (.int .u8 0), (.int .u8 0), (.int .u8 0), (.int .u8 0), (.int .u8 0), (.int .u8 0), (.int .u8 0), (.int .u8 0), (.int .u8 0), (.int .u8 0), (.int .u8 0), (.int .u8 0), (.int .u8 0), (.int .u8 0), (.int .u8 0), (.int .u8 0), (.int .u8 0), (.int .u8 0), (.int .u8 0), (.int .u8 0), (.int .u8 0), (.int .u8 0), (.int .u8 0), (.int .u8 0), (.int .u8 0), (.int .u8 0), (.int .u8 0), (.int .u8 0), (.int .u8 0), (.int .u8 0), (.int .u8 0), (.int .u8 0), (.int .u8 0), (.int .u8 0), (.int .u8 0), (.int .u8 0), (.int .u8 0), (.int .u8 0), (.int .u8 0), (.int .u8 0), (.int .u8 0), (.int .u8 0), (.int .u8 0), (.int .u8 0), (.int .u8 0), (.int .u8 0), (.int .u8 0), (.int .u8 0), (.int .u8 0), (.int .u8 0), (.int .u8 0), (.int .u8 0), (.int .u8 0), (.int .u8 0), (.int .u8 0), (.int .u8 0), (.int .u8 0), (.int .u8 0), (.int .u8 0), (.int .u8 0), (.int .u8 0), (.int .u8 0), (.int .u8 0), (.int .u8 0), (.int .u8 0), (.int .u8 0), (.int .u8 0), (.int .u8 0), (.int .u8 0), (.int .u8 0), (.int .u8 0), (.int .u8 0), (.int .u8 0), (.int .u8 0), (.int .u8 0), (.int .u8 0), (.int .u8 0), (.int .u8 0), (.int .u8 0), (.int .u8 0), (.int .u8 0), (.int .u8 0), (.int .u8 0), (.int .u8 0), (.int .u8 0), (.int .u8 0), (.int .u8 0), (.int .u8 0), (.int .u8 0), (.int .u8 0), (.int .u8 0), (.int .u8 0), (.int .u8 0), (.int .u8 0), (.int .u8 0), (.int .u8 0), (.int .u8 0), (.int .u8 0), (.int .u8 0), (.int .u8 0), (.int .u8 0), (.int .u8 0), (.int .u8 0), (.int .u8 0), (.int .u8 0), (.int .u8 0), (.int .u8 0), (.int .u8 0), (.int .u8 0), (.int .u8 0), (.int .u8 0), (.int .u8 0), (.int .u8 0), (.int .u8 0), (.int .u8 0), (.int .u8 0), (.int .u8 0), (.int .u8 0), (.int .u8 0), (.int .u8 0), (.int .u8 0), (.int .u8 0), (.int .u8 0), (.int .u8 0), (.int .u8 0), (.int .u8 0), (.int .u8 0), (.int .u8 0), (.int .u8 0), (.int .u8 0), (.int .u8 0), (.int .u8 0), (.int .u8 0), (.int .u8 0), (.int .u8 0), (.int .u8 0), (.int .u8 0), (.int .u8 0), (.int .u8 0), (.int .u8 0), (.int .u8 0), (.int .u8 0), (.int .u8 0), (.int .u8 0), (.int .u8 0), (.int .u8 0), (.int .u8 0), (.int .u8 0), (.int .u8 0)]), none, false⟩ := rfl
theorem TrydT_44 : TrydT 44 = ⟨.other, (some 1), (some 8), (some false), [], (some [.dead]), none, false⟩ := rfl
theorem TrydT_45 : TrydT 45 = ⟨.other, (some 1), (some 8), (some false), [], (some [.dead]), none, false⟩ := rfl
theorem TrydT_46 : TrydT 46 = ⟨(.slice 48), (some 1), (some 24), (some false), [], (some [.emp]), none, false⟩ := rfl
theorem TrydT_47 : TrydT 47 = ⟨.agg, (some 2), (some 16), (some true), [(0, 3), (1, 3)], (some [(.int .i64 0), (.int .i64 0)]), (some [0, 0]), true⟩ := rfl
theorem TrydT_48 : TrydT 48 = ⟨.agg, (some 2), (some 16), (some true), [(0, 3), (1, 3)], (some [(.int .i64 0), (.int .i64 0)]), (some [0, 0]), true⟩ := rfl
theorem TrydT_49 : TrydT 49 = ⟨(.int .u32), (some 1), (some 4), (some false), [], (some [(.int .u32 0)]), none, false⟩ := rfl
theorem TrydT_50 : TrydT 50 = ⟨.other, (some 1), (some 8), (some false), [], (some [.dead]), none, false⟩ := rfl
theorem TrydT_51 : TrydT 51 = ⟨.other, (some 1), (some 8), (some false), [], (some [.nilp]), none, false⟩ := rfl
theorem TrydT_52 : TrydT 52 = ⟨(.slice 58), (some 1), (some 24), (some false), [], (some [.emp]), none, false⟩ := rfl
theorem TrydT_53 : TrydT 53 = ⟨(.slice 61), (some 1), (some 24), (some false), [], (some [.emp]), none, false⟩ := rfl
theorem TrydT_54 : TrydT 54 = ⟨.agg, (some 3), (some 56), (some true), [(0, 52), (1, 53), (2, 3)], (some [.emp, .emp, (.int .i64 0)]), none, true⟩ := rfl
theorem TrydT_55 : TrydT 55 = ⟨.agg, (some 3), (some 56), (some true), [(0, 52), (1, 53), (2, 3)], (some [.emp, .emp, (.int .i64 0)]), none, true⟩ := rfl
theorem TrydT_56 : TrydT 56 = ⟨(.int .u16), (some 1), (some 2), (some false), [], (some [(.int .u16 0)]), none, false⟩ := rfl
theorem TrydT_57 : TrydT 57 = ⟨.agg, (some 3), (some 6), (some true), [(0, 56), (1, 56), (2, 56)], (some [(.int .u16 0), (.int .u16 0), (.int .u16 0)]), (some [0, 0, 0]), true⟩ := rfl
theorem TrydT_58 : TrydT 58 = ⟨.agg, (some 3), (some 6), (some true), [(0, 56), (1, 56), (2, 56)], (some [(.int .u16 0), (.int .u16 0), (.int .u16 0)]), (some [0, 0, 0]), true⟩ := rfl
theorem TrydT_59 : TrydT 59 = ⟨.other, (some 1), (some 8), (some false), [], (some [.dead]), none, false⟩ := rfl
theorem TrydT_60 : TrydT 60 = ⟨.agg, (some 3), (some 12), (some true), [(0, 49), (1, 49), (2, 49)], (some [(.int .u32 0), (.int .u32 0), (.int .u32 0)]), (some [0, 0, 0]), true⟩ := rfl
theorem TrydT_61 : TrydT 61 = ⟨.agg, (some 3), (some 12), (some true), [(0, 49), (1, 49), (2, 49)], (some [(.int .u32 0), (.int .u32 0), (.int .u32 0)]), (some [0, 0, 0]), true⟩ := rfl
theorem TrydT_62 : TrydT 62 = ⟨.other, (some 1), (some 8), (some false), [], (some [.dead]), none, false⟩ := rfl
theorem TrydT_63 : TrydT 63 = ⟨.other, (some 1), (some 8), (some false), [], (some [.nilp]), none, false⟩ := rfl
theorem TrydT_64 : TrydT 64 = ⟨(.int .u64), (some 1), (some 8), (some false), [], (some [(.int .u64 0)]), none, false⟩ := rfl
theorem TrydT_65 : TrydT 65 = ⟨.other, (some 1), (some 8), (some false), [], (some [.nilp]), none, false⟩ := rfl
theorem TrydT_66 : TrydT 66 = ⟨.other, (some 1), (some 8), (some false), [], (some [.dead]), none, false⟩ := rfl
theorem TrydT_67 : TrydT 67 = ⟨.agg, (some 4), (some 40), (some true), [(0, 17), (1, 17), (2, 17), (3, 9)], (some [.nilp, .nilp, .nilp, (.str [])]), none, true⟩ := rfl
theorem TrydT_68 : TrydT 68 = ⟨.agg, (some 4), (some 40), (some true), [(0, 17), (1, 17), (2, 17), (3, 9)], (some [.nilp, .nilp, .nilp, (.str [])]), none, true⟩ := rfl
theorem TrydT_69 : TrydT 69 = ⟨(.tarr 0 16), (some 0), (some 0), (some true), [], (some []), none, false⟩ := rfl
theorem TrydT_70 : TrydT 70 = ⟨.agg, (some 0), (some 0), (some true), [(0, 69)], (some []), none, true⟩ := rfl
theorem TrydT_71 : TrydT 71 = ⟨.agg, (some 0), (some 0), (some true), [(0, 69)], (some []), none, true⟩ := rfl
theorem TrydT_72 : TrydT 72 = ⟨.other, (some 1), (some 8), (some false), [], (some [.dead]), none, false⟩ := rfl
theorem TrydT_73 : TrydT 73 = ⟨(.int .u8), (some 1), (some 1), (some false), [], (some [(.int .u8 0)]), none, false⟩ := rfl
theorem TrydT_74 : TrydT 74 = ⟨(.int .u8), (some 1), (some 1), (some false), [], (some [(.int .u8 0)]), none, false⟩ := rfl
theorem TrydT_75 : TrydT 75 = ⟨.other, (some 1), (some 8), (some false), [], (some [.dead]), none, false⟩ := rfl
theorem TrydT_76 : TrydT 76 = ⟨.other, (some 1), (some 8), (some false), [], (some [.nilp]), none, false⟩ := rfl
theorem TrydT_77 : TrydT 77 = ⟨(.int .i32), (some 1), (some 4), (some false), [], (some [(.int .i32 0)]), none, false⟩ := rfl
theorem TrydT_78 : TrydT 78 = ⟨(.int .i32), (some 1), (some 4), (some false), [], (some [(.int .i32 0)]), none, false⟩ := rfl
theorem TrydT_79 : TrydT 79 = ⟨.agg, (some 11), (some 48), (some true), [(0, 12), (1, 12), (2, 49), (3, 73), (4, 5), (5, 5), (6, 74), (7, 75), (8, 76), (9, 77), (10, 78)], (some [(.int .u64 0), (.int .u64 0), (.int .u32 0), (.int .u8 0), (.int .u8 0), (.int .u8 0), (.int .u8 0), .dead, .nilp, (.int .i32 0), (.int .i32 0)]), none, true⟩ := rfl
theorem TrydT_80 : TrydT 80 = ⟨.agg, (some 11), (some 48), (some true), [(0, 12), (1, 12), (2, 49), (3, 73), (4, 5), (5, 5), (6, 74), (7, 75), (8, 76), (9, 77), (10, 78)], (some [(.int .u64 0), (.int .u64 0), (.int .u32 0), (.int .u8 0), (.int .u8 0), (.int .u8 0), (.int .u8 0), .dead, .nilp, (.int .i32 0), (.int .i32 0)]), none, true⟩ := rfl
theorem TrydT_81 : TrydT 81 = ⟨.other, (some 1), (some 8), (some false), [], (some [.nilp]), none, false⟩ := rfl
theorem TrydT_eq : TrydT = tiOf Tryd.prog := tiOf_table 82 (by kernel_rfl) (fun t h => by unfold TrydT; rw [h])
end Go.Proofs.YtniciinhflolnaaDoor
