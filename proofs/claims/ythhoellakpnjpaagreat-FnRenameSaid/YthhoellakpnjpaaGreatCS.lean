import Derived.Test.YthhoellakpnjpaaGreatMD
import Derived.Test.YthhoellakpnjpaaGreatChecked
import Derived.KernelRfl
namespace Go.Proofs.YthhoellakpnjpaaGreat
open Go Go.Fm
set_option maxRecDepth 100000
instance : Globs := ⟨fun _ => none⟩
/-- What the machine knows of the program's types. -/
noncomputable def TryzT (t : TypeId) : TyI := match Nat.blt t 125 with
  | false => tiOf Tryz.prog t
  | true => (match Nat.blt t 62 with
  | true => (match Nat.blt t 31 with
   | true => (match Nat.blt t 15 with
    | true => (match Nat.blt t 7 with
     | true => (match Nat.blt t 3 with
      | true => (match Nat.blt t 1 with
       | true => ⟨.other, (some 1), (some 0), (some false), [], none, none, false⟩
       | false => (match Nat.blt t 2 with
        | true => ⟨.other, (some 1), (some 8), (some false), [], (some [.dead]), none, false⟩
        | false => ⟨(.int .i64), (some 1), (some 8), (some false), [], (some [(.int .i64 0)]), none, false⟩))
      | false => (match Nat.blt t 5 with
       | true => (match Nat.blt t 4 with
        | true => ⟨(.int .i64), (some 1), (some 8), (some false), [], (some [(.int .i64 0)]), none, false⟩
        | false => ⟨.bool, (some 1), (some 1), (some false), [], (some [(.bool false)]), none, false⟩)
       | false => (match Nat.blt t 6 with
        | true => ⟨(.int .u8), (some 1), (some 1), (some false), [], (some [(.int .u8 0)]), none, false⟩
        | false => ⟨(.int .u8), (some 1), (some 1), (some false), [], (some [(.int .u8 0)]), none, false⟩)))
     | false => (match Nat.blt t 11 with
      | true => (match Nat.blt t 9 with
       | true => (match Nat.blt t 8 with
        | true => ⟨.agg, (some 4), (some 24), (some true), [(0, 2), (1, 3), (2, 4), (3, 6)], (some [(.int .i64 0), (.int .i64 0), (.bool false), (.int .u8 0)]), (some [0, 0, 1, 0]), true⟩
        | false => ⟨.agg, (some 4), (some 24), (some true), [(0, 2), (1, 3), (2, 4), (3, 6)], (some [(.int .i64 0), (.int .i64 0), (.bool false), (.int .u8 0)]), (some [0, 0, 1, 0]), true⟩)
       | false => (match Nat.blt t 10 with
        | true => ⟨.str, (some 1), (some 16), (some false), [], (some [(.str [])]), none, false⟩
        | false => ⟨.str, (some 1), (some 16), (some false), [], (some [(.str [])]), none, false⟩))
      | false => (match Nat.blt t 13 with
       | true => (match Nat.blt t 12 with
        | true => ⟨.str, (some 1), (some 16), (some false), [], (some [(.str [])]), none, false⟩
        | false => ⟨(.int .u64), (some 1), (some 8), (some false), [], (some [(.int .u64 0)]), none, false⟩)
       | false => (match Nat.blt t 14 with
        | true => ⟨.agg, (some 2), (some 24), (some true), [(0, 9), (1, 12)], (some [(.str []), (.int .u64 0)]), none, true⟩
        | false => ⟨.agg, (some 2), (some 24), (some true), [(0, 9), (1, 12)], (some [(.str []), (.int .u64 0)]), none, true⟩))))
    | false => (match Nat.blt t 23 with
     | true => (match Nat.blt t 19 with
      | true => (match Nat.blt t 17 with
       | true => (match Nat.blt t 16 with
        | true => ⟨.other, (some 1), (some 8), (some false), [], (some [.nilp]), none, false⟩
        | false => ⟨.other, (some 1), (some 8), (some false), [], (some [.nilp]), none, false⟩)
       | false => (match Nat.blt t 18 with
        | true => ⟨.other, (some 1), (some 8), (some false), [], (some [.nilp]), none, false⟩
        | false => ⟨.agg, (some 1), (some 8), (some true), [(0, 17)], (some [.nilp]), none, true⟩))
      | false => (match Nat.blt t 21 with
       | true => (match Nat.blt t 20 with
        | true => ⟨.agg, (some 1), (some 8), (some true), [(0, 17)], (some [.nilp]), none, true⟩
        | false => ⟨.iface, (some 1), (some 16), (some false), [], (some [.nili]), none, false⟩)
       | false => (match Nat.blt t 22 with
        | true => ⟨(.int .i32), (some 1), (some 4), (some false), [], (some [(.int .i32 0)]), none, false⟩
        | false => ⟨(.slice 5), (some 1), (some 24), (some false), [], (some [.emp]), none, false⟩)))
     | false => (match Nat.blt t 27 with
      | true => (match Nat.blt t 25 with
       | true => (match Nat.blt t 24 with
        | true => ⟨.other, (some 1), (some 8), (some false), [], (some [.dead]), none, false⟩
        | false => ⟨(.slice 44), (some 1), (some 24), (some false), [], (some [.emp]), none, false⟩)
       | false => (match Nat.blt t 26 with
        | true => ⟨.agg, (some 1), (some 24), (some true), [(0, 24)], (some [.emp]), none, true⟩
        | false => ⟨.agg, (some 1), (some 24), (some true), [(0, 24)], (some [.emp]), none, true⟩))
      | false => (match Nat.blt t 29 with
       | true => (match Nat.blt t 28 with
        | true => ⟨.other, (some 1), (some 0), (some false), [], none, none, false⟩
        | false => ⟨.other, (some 1), (some 8), (some false), [], (some [.dead]), none, false⟩)
       | false => (match Nat.blt t 30 with
        | true => ⟨.other, (some 1), (some 0), (some false), [], none, none, false⟩
        | false => ⟨.other, (some 1), (some 8), (some false), [], (some [.dead]), none, false⟩)))))
   | false => (match Nat.blt t 46 with
    | true => (match Nat.blt t 38 with
     | true => (match Nat.blt t 34 with
      | true => (match Nat.blt t 32 with
       | true => ⟨(.slice 3), (some 1), (some 24), (some false), [], (some [.emp]), none, false⟩
       | false => (match Nat.blt t 33 with
        | true => ⟨.other, (some 1), (some 8), (some false), [], (some [.dead]), none, false⟩
        | false => ⟨.other, (some 1), (some 8), (some false), [], (some [.dead]), none, false⟩))
      | false => (match Nat.blt t 36 with
       | true => (match Nat.blt t 35 with
        | true => ⟨.other, (some 1), (some 8), (some false), [], (some [.dead]), none, false⟩
        | false => ⟨.other, (some 1), (some 8), (some false), [], (some [.nilp]), none, false⟩)
       | false => (match Nat.blt t 37 with
        | true => ⟨.other, (some 1), (some 8), (some false), [], (some [.dead]), none, false⟩
        | false => ⟨.other, (some 1), (some 8), (some false), [], (some [.dead]), none, false⟩)))
     | false => (match Nat.blt t 42 with
      | true => (match Nat.blt t 40 with
       | true => (match Nat.blt t 39 with
        | true => ⟨.other, (some 1), (some 8), (some false), [], (some [.dead]), none, false⟩
        | false => ⟨.other, (some 1), (some 8), (some false), [], (some [.dead]), none, false⟩)
       | false => (match Nat.blt t 41 with
        | true => ⟨.other, (some 1), (some 8), (some false), [], (some [.dead]), none, false⟩
        | false => ⟨(.slice 9), (some 1), (some 24), (some false), [], (some [.emp]), none, false⟩))
      | false => (match Nat.blt t 44 with
       | true => (match Nat.blt t 43 with
        | true => ⟨.other, (some 1), (some 8), (some false), [], (some [.dead]), none, false⟩
        | false => ⟨.other, (some 1), (some 8), (some false), [], (some [.dead]), none, false⟩)
       | false => (match Nat.blt t 45 with
        | true => ⟨(.int .u32), (some 1), (some 4), (some false), [], (some [(.int .u32 0)]), none, false⟩
        | false => ⟨(.slice 49), (some 1), (some 24), (some false), [], (some [.emp]), none, false⟩))))
    | false => (match Nat.blt t 54 with
     | true => (match Nat.blt t 50 with
      | true => (match Nat.blt t 48 with
       | true => (match Nat.blt t 47 with
        | true => ⟨.other, (some 1), (some 0), (some false), [], none, none, false⟩
        | false => ⟨.other, (some 1), (some 8), (some false), [], (some [.dead]), none, false⟩)
       | false => (match Nat.blt t 49 with
        | true => ⟨.agg, (some 5), (some 40), (some true), [(0, 3), (1, 9), (2, 21), (3, 4), (4, 44)], (some [(.int .i64 0), (.str []), (.int .i32 0), (.bool false), (.int .u32 0)]), (some [0, 2, 0, 1, 0]), true⟩
        | false => ⟨.agg, (some 5), (some 40), (some true), [(0, 3), (1, 9), (2, 21), (3, 4), (4, 44)], (some [(.int .i64 0), (.str []), (.int .i32 0), (.bool false), (.int .u32 0)]), (some [0, 2, 0, 1, 0]), true⟩))
      | false => (match Nat.blt t 52 with
       | true => (match Nat.blt t 51 with
        | true => ⟨.other, (some 1), (some 8), (some false), [], (some [.dead]), none, false⟩
        | false => ⟨.other, (some 1), (some 8), (some false), [], (some [.dead]), none, false⟩)
       | false => (match Nat.blt t 53 with
        | true => ⟨.other, (some 1), (some 8), (some false), [], (some [.dead]), none, false⟩
        | false => ⟨.other, (some 1), (some 8), (some false), [], (some [.dead]), none, false⟩)))
     | false => (match Nat.blt t 58 with
      | true => (match Nat.blt t 56 with
       | true => (match Nat.blt t 55 with
        | true => ⟨(.slice 57), (some 1), (some 24), (some false), [], (some [.emp]), none, false⟩
        | false => ⟨.other, (some 1), (some 8), (some false), [], (some [.dead]), none, false⟩)
       | false => (match Nat.blt t 57 with
        | true => ⟨.agg, (some 6), (some 48), (some true), [(0, 49), (5, 3)], (some [(.int .i64 0), (.str []), (.int .i32 0), (.bool false), (.int .u32 0), (.int .i64 0)]), none, true⟩
        | false => ⟨.agg, (some 6), (some 48), (some true), [(0, 49), (5, 3)], (some [(.int .i64 0), (.str []), (.int .i32 0), (.bool false), (.int .u32 0), (.int .i64 0)]), none, true⟩))
      | false => (match Nat.blt t 60 with
       | true => (match Nat.blt t 59 with
        | true => ⟨.other, (some 1), (some 8), (some false), [], (some [.dead]), none, false⟩
        | false => ⟨.other, (some 1), (some 8), (some false), [], (some [.dead]), none, false⟩)
       | false => (match Nat.blt t 61 with
        | true => ⟨.agg, (some 3), (some 40), (some true), [(0, 22), (1, 3), (2, 3)], (some [.emp, (.int .i64 0), (.int .i64 0)]), none, true⟩
        | false => ⟨.agg, (some 3), (some 40), (some true), [(0, 22), (1, 3), (2, 3)], (some [.emp, (.int .i64 0), (.int .i64 0)]), none, true⟩))))))
  | false => (match Nat.blt t 93 with
   | true => (match Nat.blt t 77 with
    | true => (match Nat.blt t 69 with
     | true => (match Nat.blt t 65 with
      | true => (match Nat.blt t 63 with
       | true => ⟨.other, (some 1), (some 8), (some false), [], (some [.dead]), none, false⟩
       | false => (match Nat.blt t 64 with
        | true => ⟨.other, (some 1), (some 0), (some false), [], none, none, false⟩
        | false => ⟨.other, (some 1), (some 8), (some false), [], (some [.dead]), none, false⟩))
      | false => (match Nat.blt t 67 with
       | true => (match Nat.blt t 66 with
        | true => ⟨.other, (some 1), (some 8), (some false), [], (some [.dead]), none, false⟩
        | false => ⟨.other, (some 1), (some 8), (some false), [], (some [.dead]), none, false⟩)
       | false => (match Nat.blt t 68 with
        | true => ⟨.other, (some 1), (some 8), (some false), [], (some [.dead]), none, false⟩
        | false => ⟨.other, (some 1), (some 8), (some false), [], (some [.dead]), none, false⟩)))
     | false => (match Nat.blt t 73 with
      | true => (match Nat.blt t 71 with
       | true => (match Nat.blt t 70 with
        | true => ⟨.other, (some 1), (some 8), (some false), [], (some [.dead]), none, false⟩
        | false => ⟨.other, (some 1), (some 8), (some false), [], (some [.dead]), none, false⟩)
       | false => (match Nat.blt t 72 with
        | true => ⟨.other, (some 1), (some 8), (some false), [], (some [.dead]), none, false⟩
        | false => ⟨.other, (some 1), (some 8), (some false), [], (some [.dead]), none, false⟩))
      | false => (match Nat.blt t 75 with
       | true => (match Nat.blt t 74 with
        | true => ⟨.other, (some 1), (some 8), (some false), [], (some [.dead]), none, false⟩
        | false => ⟨.other, (some 1), (some 8), (some false), [], (some [.dead]), none, false⟩)
       | false => (match Nat.blt t 76 with
        | true => ⟨.other, (some 1), (some 8), (some false), [], (some [.dead]), none, false⟩
        | false => ⟨.other, (some 1), (some 8), (some false), [], (some [.dead]), none, false⟩))))
    | false => (match Nat.blt t 85 with
     | true => (match Nat.blt t 81 with
      | true => (match Nat.blt t 79 with
       | true => (match Nat.blt t 78 with
        | true => ⟨.other, (some 1), (some 8), (some false), [], (some [.dead]), none, false⟩
        | false => ⟨.other, (some 1), (some 0), (some false), [], none, none, false⟩)
       | false => (match Nat.blt t 80 with
        | true => ⟨.other, (some 1), (some 8), (some false), [], (some [.dead]), none, false⟩
        | false => ⟨.other, (some 1), (some 8), (some false), [], (some [.dead]), none, false⟩))
      | false => (match Nat.blt t 83 with
       | true => (match Nat.blt t 82 with
        | true => ⟨.other, (some 1), (some 8), (some false), [], (some [.dead]), none, false⟩
        | false => ⟨(.int .u64), (some 1), (some 8), (some false), [], (some [(.int .u64 0)]), none, false⟩)
       | false => (match Nat.blt t 84 with
        | true => ⟨.other, (some 1), (some 8), (some false), [], (some [.dead]), none, false⟩
        | false => ⟨.other, (some 1), (some 8), (some false), [], (some [.dead]), none, false⟩)))
     | false => (match Nat.blt t 89 with
      | true => (match Nat.blt t 87 with
       | true => (match Nat.blt t 86 with
        | true => ⟨.other, (some 1), (some 8), (some false), [], (some [.dead]), none, false⟩
        | false => ⟨.other, (some 1), (some 8), (some false), [], (some [.dead]), none, false⟩)
       | false => (match Nat.blt t 88 with
        | true => ⟨.other, (some 1), (some 8), (some false), [], (some [.dead]), none, false⟩
        | false => ⟨.other, (some 1), (some 8), (some false), [], (some [.dead]), none, false⟩))
      | false => (match Nat.blt t 91 with
       | true => (match Nat.blt t 90 with
        | true => ⟨.other, (some 1), (some 8), (some false), [], (some [.dead]), none, false⟩
        | false => ⟨.other, (some 1), (some 8), (some false), [], (some [.dead]), none, false⟩)
       | false => (match Nat.blt t 92 with
        | true => ⟨.other, (some 1), (some 8), (some false), [], (some [.dead]), none, false⟩
        | false => ⟨.other, (some 1), (some 0), (some false), [], none, none, false⟩)))))
   | false => (match Nat.blt t 109 with
    | true => (match Nat.blt t 101 with
     | true => (match Nat.blt t 97 with
      | true => (match Nat.blt t 95 with
       | true => (match Nat.blt t 94 with
        | true => ⟨.other, (some 1), (some 8), (some false), [], (some [.dead]), none, false⟩
        | false => ⟨.other, (some 1), (some 8), (some false), [], (some [.dead]), none, false⟩)
       | false => (match Nat.blt t 96 with
        | true => ⟨.other, (some 1), (some 8), (some false), [], (some [.dead]), none, false⟩
        | false => ⟨.other, (some 1), (some 8), (some false), [], (some [.dead]), none, false⟩))
      | false => (match Nat.blt t 99 with
       | true => (match Nat.blt t 98 with
        | true => ⟨.other, (some 1), (some 8), (some false), [], (some [.dead]), none, false⟩
        | false => ⟨.other, (some 1), (some 8), (some false), [], (some [.dead]), none, false⟩)
       | false => (match Nat.blt t 100 with
        | true => ⟨.other, (some 1), (some 0), (some false), [], none, none, false⟩
        | false => ⟨.other, (some 1), (some 8), (some false), [], (some [.dead]), none, false⟩)))
     | false => (match Nat.blt t 105 with
      | true => (match Nat.blt t 103 with
       | true => (match Nat.blt t 102 with
        | true => ⟨.other, (some 1), (some 8), (some false), [], (some [.dead]), none, false⟩
        | false => ⟨.other, (some 1), (some 8), (some false), [], (some [.dead]), none, false⟩)
       | false => (match Nat.blt t 104 with
        | true => ⟨.other, (some 1), (some 8), (some false), [], (some [.dead]), none, false⟩
        | false => ⟨.other, (some 1), (some 8), (some false), [], (some [.dead]), none, false⟩))
      | false => (match Nat.blt t 107 with
       | true => (match Nat.blt t 106 with
        | true => ⟨.other, (some 1), (some 0), (some false), [], none, none, false⟩
        | false => ⟨.other, (some 1), (some 8), (some false), [], (some [.dead]), none, false⟩)
       | false => (match Nat.blt t 108 with
        | true => ⟨.other, (some 1), (some 8), (some false), [], (some [.dead]), none, false⟩
        | false => ⟨.other, (some 1), (some 8), (some false), [], (some [.dead]), none, false⟩))))
    | false => (match Nat.blt t 117 with
     | true => (match Nat.blt t 113 with
      | true => (match Nat.blt t 111 with
       | true => (match Nat.blt t 110 with
        | true => ⟨.other, (some 1), (some 8), (some false), [], (some [.dead]), none, false⟩
        | false => ⟨.agg, (some 4), (some 40), (some true), [(0, 17), (1, 17), (2, 17), (3, 9)], (some [.nilp, .nilp, .nilp, (.str [])]), none, true⟩)
       | false => (match Nat.blt t 112 with
        | true => ⟨.agg, (some 4), (some 40), (some true), [(0, 17), (1, 17), (2, 17), (3, 9)], (some [.nilp, .nilp, .nilp, (.str [])]), none, true⟩
        | false => ⟨.other, (some 0), (some 0), (some true), [], (some []), none, false⟩))
      | false => (match Nat.blt t 115 with
       | true => (match Nat.blt t 114 with
        | true => ⟨.agg, (some 0), (some 0), (some true), [(0, 112)], (some []), none, true⟩
        | false => ⟨.agg, (some 0), (some 0), (some true), [(0, 112)], (some []), none, true⟩)
       | false => (match Nat.blt t 116 with
        | true => ⟨.other, (some 1), (some 8), (some false), [], (some [.dead]), none, false⟩
        | false => ⟨(.int .u8), (some 1), (some 1), (some false), [], (some [(.int .u8 0)]), none, false⟩)))
     | false => (match Nat.blt t 121 with
      | true => (match Nat.blt t 119 with
       | true => (match Nat.blt t 118 with
        | true => ⟨(.int .u8), (some 1), (some 1), (some false), [], (some [(.int .u8 0)]), none, false⟩
        | false => ⟨.other, (some 1), (some 8), (some false), [], (some [.dead]), none, false⟩)
       | false => (match Nat.blt t 120 with
        | true => ⟨.other, (some 1), (some 8), (some false), [], (some [.nilp]), none, false⟩
        | false => ⟨(.int .i32), (some 1), (some 4), (some false), [], (some [(.int .i32 0)]), none, false⟩))
      | false => (match Nat.blt t 123 with
       | true => (match Nat.blt t 122 with
        | true => ⟨(.int .i32), (some 1), (some 4), (some false), [], (some [(.int .i32 0)]), none, false⟩
        | false => ⟨.agg, (some 11), (some 48), (some true), [(0, 12), (1, 12), (2, 44), (3, 116), (4, 5), (5, 5), (6, 117), (7, 118), (8, 119), (9, 120), (10, 121)], (some [(.int .u64 0), (.int .u64 0), (.int .u32 0), (.int .u8 0), (.int .u8 0), (.int .u8 0), (.int .u8 0), .dead, .nilp, (.int .i32 0), (.int .i32 0)]), none, true⟩)
       | false => (match Nat.blt t 124 with
        | true => ⟨.agg, (some 11), (some 48), (some true), [(0, 12), (1, 12), (2, 44), (3, 116), (4, 5), (5, 5), (6, 117), (7, 118), (8, 119), (9, 120), (10, 121)], (some [(.int .u64 0), (.int .u64 0), (.int .u32 0), (.int .u8 0), (.int .u8 0), (.int .u8 0), (.int .u8 0), .dead, .nilp, (.int .i32 0), (.int .i32 0)]), none, true⟩
        | false => ⟨.other, (some 1), (some 8), (some false), [], (some [.nilp]), none, false⟩)))))))
theorem TryzT_0 : TryzT 0 = ⟨.other, (some 1), (some 0), (some false), [], none, none, false⟩ := rfl
theorem TryzT_1 : TryzT 1 = ⟨.other, (some 1), (some 8), (some false), [], (some [.dead]), none, false⟩ := rfl
theorem TryzT_2 : TryzT 2 = ⟨(.int .i64), (some 1), (some 8), (some false), [], (some [(.int .i64 0)]), none, false⟩ := rfl
theorem TryzT_3 : TryzT 3 = ⟨(.int .i64), (some 1), (some 8), (some false), [], (some [(.int .i64 0)]), none, false⟩ := rfl
theorem TryzT_4 : TryzT 4 = ⟨.bool, (some 1), (some 1), (some false), [], (some [(.bool false)]), none, false⟩ := rfl
theorem TryzT_5 : TryzT 5 = ⟨(.int .u8), (some 1), (some 1), (some false), [], (some [(.int .u8 0)]), none, false⟩ := rfl
theorem TryzT_6 : TryzT 6 = ⟨(.int .u8), (some 1), (some 1), (some false), [], (some [(.int .u8 0)]), none, false⟩ := rfl
theorem TryzT_7 : TryzT 7 = ⟨.agg, (some 4), (some 24), (some true), [(0, 2), (1, 3), (2, 4), (3, 6)], (some [(.int .i64 0), (.int .i64 0), (.bool false), (.int .u8 0)]), (some [0, 0, 1, 0]), true⟩ := rfl
theorem TryzT_8 : TryzT 8 = ⟨.agg, (some 4), (some 24), (some true), [(0, 2), (1, 3), (2, 4), (3, 6)], (some [(.int .i64 0), (.int .i64 0), (.bool false), (.int .u8 0)]), (some [0, 0, 1, 0]), true⟩ := rfl
theorem TryzT_9 : TryzT 9 = ⟨.str, (some 1), (some 16), (some false), [], (some [(.str [])]), none, false⟩ := rfl
theorem TryzT_10 : TryzT 10 = ⟨.str, (some 1), (some 16), (some false), [], (some [(.str [])]), none, false⟩ := rfl
theorem TryzT_11 : TryzT 11 = ⟨.str, (some 1), (some 16), (some false), [], (some [(.str [])]), none, false⟩ := rfl
theorem TryzT_12 : TryzT 12 = ⟨(.int .u64), (some 1), (some 8), (some false), [], (some [(.int .u64 0)]), none, false⟩ := rfl
theorem TryzT_13 : TryzT 13 = ⟨.agg, (some 2), (some 24), (some true), [(0, 9), (1, 12)], (some [(.str []), (.int .u64 0)]), none, true⟩ := rfl
theorem TryzT_14 : TryzT 14 = ⟨.agg, (some 2), (some 24), (some true), [(0, 9), (1, 12)], (some [(.str []), (.int .u64 0)]), none, true⟩ := rfl
theorem TryzT_15 : TryzT 15 = ⟨.other, (some 1), (some 8), (some false), [], (some [.nilp]), none, false⟩ := rfl
theorem TryzT_16 : TryzT 16 = ⟨.other, (some 1), (some 8), (some false), [], (some [.nilp]), none, false⟩ := rfl
theorem TryzT_17 : TryzT 17 = ⟨.other, (some 1), (some 8), (some false), [], (some [.nilp]), none, false⟩ := rfl
theorem TryzT_18 : TryzT 18 = ⟨.agg, (some 1), (some 8), (some true), [(0, 17)], (some [.nilp]), none, true⟩ := rfl
theorem TryzT_19 : TryzT 19 = ⟨.agg, (some 1), (some 8), (some true), [(0, 17)], (some [.nilp]), none, true⟩ := rfl
theorem TryzT_20 : TryzT 20 = ⟨.iface, (some 1), (some 16), (some false), [], (some [.nili]), none, false⟩ := rfl
theorem TryzT_21 : TryzT 21 = ⟨(.int .i32), (some 1), (some 4), (some false), [], (some [(.int .i32 0)]), none, false⟩ := rfl
theorem TryzT_22 : TryzT 22 = ⟨(.slice 5), (some 1), (some 24), (some false), [], (some [.emp]), none, false⟩ := rfl
theorem TryzT_23 : TryzT 23 = ⟨.other, (some 1), (some 8), (some false), [], (some [.dead]), none, false⟩ := rfl
theorem TryzT_24 : TryzT 24 = ⟨(.slice 44), (some 1), (some 24), (some false), [], (some [.emp]), none, false⟩ := rfl
theorem TryzT_25 : TryzT 25 = ⟨.agg, (some 1), (some 24), (some true), [(0, 24)], (some [.emp]), none, true⟩ := rfl
theorem TryzT_26 : TryzT 26 = ⟨.agg, (some 1), (some 24), (some true), [(0, 24)], (some [.emp]), none, true⟩ := rfl
theorem TryzT_27 : TryzT 27 = ⟨.other, (some 1), (some 0), (some false), [], none, none, false⟩ := rfl
theorem TryzT_28 : TryzT 28 = ⟨.other, (some 1), (some 8), (some false), [], (some [.dead]), none, false⟩ := rfl
theorem TryzT_29 : TryzT 29 = ⟨.other, (some 1), (some 0), (some false), [], none, none, false⟩ := rfl
theorem TryzT_30 : TryzT 30 = ⟨.other, (some 1), (some 8), (some false), [], (some [.dead]), none, false⟩ := rfl
theorem TryzT_31 : TryzT 31 = ⟨(.slice 3), (some 1), (some 24), (some false), [], (some [.emp]), none, false⟩ := rfl
theorem TryzT_32 : TryzT 32 = ⟨.other, (some 1), (some 8), (some false), [], (some [.dead]), none, false⟩ := rfl
theorem TryzT_33 : TryzT 33 = ⟨.other, (some 1), (some 8), (some false), [], (some [.dead]), none, false⟩ := rfl
theorem TryzT_34 : TryzT 34 = ⟨.other, (some 1), (some 8), (some false), [], (some [.dead]), none, false⟩ := rfl
theorem TryzT_35 : TryzT 35 = ⟨.other, (some 1), (some 8), (some false), [], (some [.nilp]), none, false⟩ := rfl
theorem TryzT_36 : TryzT 36 = ⟨.other, (some 1), (some 8), (some false), [], (some [.dead]), none, false⟩ := rfl
theorem TryzT_37 : TryzT 37 = ⟨.other, (some 1), (some 8), (some false), [], (some [.dead]), none, false⟩ := rfl
theorem TryzT_38 : TryzT 38 = ⟨.other, (some 1), (some 8), (some false), [], (some [.dead]), none, false⟩ := rfl
theorem TryzT_39 : TryzT 39 = ⟨.other, (some 1), (some 8), (some false), [], (some [.dead]), none, false⟩ := rfl
theorem TryzT_40 : TryzT 40 = ⟨.other, (some 1), (some 8), (some false), [], (some [.dead]), none, false⟩ := rfl
theorem TryzT_41 : TryzT 41 = ⟨(.slice 9), (some 1), (some 24), (some false), [], (some [.emp]), none, false⟩ := rfl
theorem TryzT_42 : TryzT 42 = ⟨.other, (some 1), (some 8), (some false), [], (some [.dead]), none, false⟩ := rfl
theorem TryzT_43 : TryzT 43 = ⟨.other, (some 1), (some 8), (some false), [], (some [.dead]), none, false⟩ := rfl
theorem TryzT_44 : TryzT 44 = ⟨(.int .u32), (some 1), (some 4), (some false), [], (some [(.int .u32 0)]), none, false⟩ := rfl
theorem TryzT_45 : TryzT 45 = ⟨(.slice 49), (some 1), (some 24), (some false), [], (some [.emp]), none, false⟩ := rfl
theorem TryzT_46 : TryzT 46 = ⟨.other, (some 1), (some 0), (some false), [], none, none, false⟩ := rfl
theorem TryzT_47 : TryzT 47 = ⟨.other, (some 1), (some 8), (some false), [], (some [.dead]), none, false⟩ := rfl
theorem TryzT_48 : TryzT 48 = ⟨.agg, (some 5), (some 40), (some true), [(0, 3), (1, 9), (2, 21), (3, 4), (4, 44)], (some [(.int .i64 0), (.str []), (.int .i32 0), (.bool false), (.int .u32 0)]), (some [0, 2, 0, 1, 0]), true⟩ := rfl
theorem TryzT_49 : TryzT 49 = ⟨.agg, (some 5), (some 40), (some true), [(0, 3), (1, 9), (2, 21), (3, 4), (4, 44)], (some [(.int .i64 0), (.str []), (.int .i32 0), (.bool false), (.int .u32 0)]), (some [0, 2, 0, 1, 0]), true⟩ := rfl
theorem TryzT_50 : TryzT 50 = ⟨.other, (some 1), (some 8), (some false), [], (some [.dead]), none, false⟩ := rfl
theorem TryzT_51 : TryzT 51 = ⟨.other, (some 1), (some 8), (some false), [], (some [.dead]), none, false⟩ := rfl
theorem TryzT_52 : TryzT 52 = ⟨.other, (some 1), (some 8), (some false), [], (some [.dead]), none, false⟩ := rfl
theorem TryzT_53 : TryzT 53 = ⟨.other, (some 1), (some 8), (some false), [], (some [.dead]), none, false⟩ := rfl
theorem TryzT_54 : TryzT 54 = ⟨(.slice 57), (some 1), (some 24), (some false), [], (some [.emp]), none, false⟩ := rfl
theorem TryzT_55 : TryzT 55 = ⟨.other, (some 1), (some 8), (some false), [], (some [.dead]), none, false⟩ := rfl
theorem TryzT_56 : TryzT 56 = ⟨.agg, (some 6), (some 48), (some true), [(0, 49), (5, 3)], (some [(.int .i64 0), (.str []), (.int .i32 0), (.bool false), (.int .u32 0), (.int .i64 0)]), none, true⟩ := rfl
theorem TryzT_57 : TryzT 57 = ⟨.agg, (some 6), (some 48), (some true), [(0, 49), (5, 3)], (some [(.int .i64 0), (.str []), (.int .i32 0), (.bool false), (.int .u32 0), (.int .i64 0)]), none, true⟩ := rfl
theorem TryzT_58 : TryzT 58 = ⟨.other, (some 1), (some 8), (some false), [], (some [.dead]), none, false⟩ := rfl
theorem TryzT_59 : TryzT 59 = ⟨.other, (some 1), (some 8), (some false), [], (some [.dead]), none, false⟩ := rfl
theorem TryzT_60 : TryzT 60 = ⟨.agg, (some 3), (some 40), (some true), [(0, 22), (1, 3), (2, 3)], (some [.emp, (.int .i64 0), (.int .i64 0)]), none, true⟩ := rfl
theorem TryzT_61 : TryzT 61 = ⟨.agg, (some 3), (some 40), (some true), [(0, 22), (1, 3), (2, 3)], (some [.emp, (.int .i64 0), (.int .i64 0)]), none, true⟩ := rfl
theorem TryzT_62 : TryzT 62 = ⟨.other, (some 1), (some 8), (some false), [], (some [.dead]), none, false⟩ := rfl
theorem TryzT_63 : TryzT 63 = ⟨.other, (some 1), (some 0), (some false), [], none, none, false⟩ := rfl
theorem TryzT_64 : TryzT 64 = ⟨.other, (some 1), (some 8), (some false), [], (some [.dead]), none, false⟩ := rfl
theorem TryzT_65 : TryzT 65 = ⟨.other, (some 1), (some 8), (some false), [], (some [.dead]), none, false⟩ := rfl
theorem TryzT_66 : TryzT 66 = ⟨.other, (some 1), (some 8), (some false), [], (some [.dead]), none, false⟩ := rfl
theorem TryzT_67 : TryzT 67 = ⟨.other, (some 1), (some 8), (some false), [], (some [.dead]), none, false⟩ := rfl
theorem TryzT_68 : TryzT 68 = ⟨.other, (some 1), (some 8), (some false), [], (some [.dead]), none, false⟩ := rfl
theorem TryzT_69 : TryzT 69 = ⟨.other, (some 1), (some 8), (some false), [], (some [.dead]), none, false⟩ := rfl
theorem TryzT_70 : TryzT 70 = ⟨.other, (some 1), (some 8), (some false), [], (some [.dead]), none, false⟩ := rfl
theorem TryzT_71 : TryzT 71 = ⟨.other, (some 1), (some 8), (some false), [], (some [.dead]), none, false⟩ := rfl
theorem TryzT_72 : TryzT 72 = ⟨.other, (some 1), (some 8), (some false), [], (some [.dead]), none, false⟩ := rfl
theorem TryzT_73 : TryzT 73 = ⟨.other, (some 1), (some 8), (some false), [], (some [.dead]), none, false⟩ := rfl
theorem TryzT_74 : TryzT 74 = ⟨.other, (some 1), (some 8), (some false), [], (some [.dead]), none, false⟩ := rfl
theorem TryzT_75 : TryzT 75 = ⟨.other, (some 1), (some 8), (some false), [], (some [.dead]), none, false⟩ := rfl
theorem TryzT_76 : TryzT 76 = ⟨.other, (some 1), (some 8), (some false), [], (some [.dead]), none, false⟩ := rfl
theorem TryzT_77 : TryzT 77 = ⟨.other, (some 1), (some 8), (some false), [], (some [.dead]), none, false⟩ := rfl
theorem TryzT_78 : TryzT 78 = ⟨.other, (some 1), (some 0), (some false), [], none, none, false⟩ := rfl
theorem TryzT_79 : TryzT 79 = ⟨.other, (some 1), (some 8), (some false), [], (some [.dead]), none, false⟩ := rfl
theorem TryzT_80 : TryzT 80 = ⟨.other, (some 1), (some 8), (some false), [], (some [.dead]), none, false⟩ := rfl
theorem TryzT_81 : TryzT 81 = ⟨.other, (some 1), (some 8), (some false), [], (some [.dead]), none, false⟩ := rfl
theorem TryzT_82 : TryzT 82 = ⟨(.int .u64), (some 1), (some 8), (some false), [], (some [(.int .u64 0)]), none, false⟩ := rfl
theorem TryzT_83 : TryzT 83 = ⟨.other, (some 1), (some 8), (some false), [], (some [.dead]), none, false⟩ := rfl
theorem TryzT_84 : TryzT 84 = ⟨.other, (some 1), (some 8), (some false), [], (some [.dead]), none, false⟩ := rfl
theorem TryzT_85 : TryzT 85 = ⟨.other, (some 1), (some 8), (some false), [], (some [.dead]), none, false⟩ := rfl
theorem TryzT_86 : TryzT 86 = ⟨.other, (some 1), (some 8), (some false), [], (some [.dead]), none, false⟩ := rfl
theorem TryzT_87 : TryzT 87 = ⟨.other, (some 1), (some 8), (some false), [], (some [.dead]), none, false⟩ := rfl
theorem TryzT_88 : TryzT 88 = ⟨.other, (some 1), (some 8), (some false), [], (some [.dead]), none, false⟩ := rfl
theorem TryzT_89 : TryzT 89 = ⟨.other, (some 1), (some 8), (some false), [], (some [.dead]), none, false⟩ := rfl
theorem TryzT_90 : TryzT 90 = ⟨.other, (some 1), (some 8), (some false), [], (some [.dead]), none, false⟩ := rfl
theorem TryzT_91 : TryzT 91 = ⟨.other, (some 1), (some 8), (some false), [], (some [.dead]), none, false⟩ := rfl
theorem TryzT_92 : TryzT 92 = ⟨.other, (some 1), (some 0), (some false), [], none, none, false⟩ := rfl
theorem TryzT_93 : TryzT 93 = ⟨.other, (some 1), (some 8), (some false), [], (some [.dead]), none, false⟩ := rfl
theorem TryzT_94 : TryzT 94 = ⟨.other, (some 1), (some 8), (some false), [], (some [.dead]), none, false⟩ := rfl
theorem TryzT_95 : TryzT 95 = ⟨.other, (some 1), (some 8), (some false), [], (some [.dead]), none, false⟩ := rfl
theorem TryzT_96 : TryzT 96 = ⟨.other, (some 1), (some 8), (some false), [], (some [.dead]), none, false⟩ := rfl
theorem TryzT_97 : TryzT 97 = ⟨.other, (some 1), (some 8), (some false), [], (some [.dead]), none, false⟩ := rfl
theorem TryzT_98 : TryzT 98 = ⟨.other, (some 1), (some 8), (some false), [], (some [.dead]), none, false⟩ := rfl
theorem TryzT_99 : TryzT 99 = ⟨.other, (some 1), (some 0), (some false), [], none, none, false⟩ := rfl
theorem TryzT_100 : TryzT 100 = ⟨.other, (some 1), (some 8), (some false), [], (some [.dead]), none, false⟩ := rfl
theorem TryzT_101 : TryzT 101 = ⟨.other, (some 1), (some 8), (some false), [], (some [.dead]), none, false⟩ := rfl
theorem TryzT_102 : TryzT 102 = ⟨.other, (some 1), (some 8), (some false), [], (some [.dead]), none, false⟩ := rfl
theorem TryzT_103 : TryzT 103 = ⟨.other, (some 1), (some 8), (some false), [], (some [.dead]), none, false⟩ := rfl
theorem TryzT_104 : TryzT 104 = ⟨.other, (some 1), (some 8), (some false), [], (some [.dead]), none, false⟩ := rfl
theorem TryzT_105 : TryzT 105 = ⟨.other, (some 1), (some 0), (some false), [], none, none, false⟩ := rfl
theorem TryzT_106 : TryzT 106 = ⟨.other, (some 1), (some 8), (some false), [], (some [.dead]), none, false⟩ := rfl
theorem TryzT_107 : TryzT 107 = ⟨.other, (some 1), (some 8), (some false), [], (some [.dead]), none, false⟩ := rfl
theorem TryzT_108 : TryzT 108 = ⟨.other, (some 1), (some 8), (some false), [], (some [.dead]), none, false⟩ := rfl
theorem TryzT_109 : TryzT 109 = ⟨.other, (some 1), (some 8), (some false), [], (some [.dead]), none, false⟩ := rfl
theorem TryzT_110 : TryzT 110 = ⟨.agg, (some 4), (some 40), (some true), [(0, 17), (1, 17), (2, 17), (3, 9)], (some [.nilp, .nilp, .nilp, (.str [])]), none, true⟩ := rfl
theorem TryzT_111 : TryzT 111 = ⟨.agg, (some 4), (some 40), (some true), [(0, 17), (1, 17), (2, 17), (3, 9)], (some [.nilp, .nilp, .nilp, (.str [])]), none, true⟩ := rfl
theorem TryzT_112 : TryzT 112 = ⟨.other, (some 0), (some 0), (some true), [], (some []), none, false⟩ := rfl
theorem TryzT_113 : TryzT 113 = ⟨.agg, (some 0), (some 0), (some true), [(0, 112)], (some []), none, true⟩ := rfl
theorem TryzT_114 : TryzT 114 = ⟨.agg, (some 0), (some 0), (some true), [(0, 112)], (some []), none, true⟩ := rfl
theorem TryzT_115 : TryzT 115 = ⟨.other, (some 1), (some 8), (some false), [], (some [.dead]), none, false⟩ := rfl
theorem TryzT_116 : TryzT 116 = ⟨(.int .u8), (some 1), (some 1), (some false), [], (some [(.int .u8 0)]), none, false⟩ := rfl
theorem TryzT_117 : TryzT 117 = ⟨(.int .u8), (some 1), (some 1), (some false), [], (some [(.int .u8 0)]), none, false⟩ := rfl
theorem TryzT_118 : TryzT 118 = ⟨.other, (some 1), (some 8), (some false), [], (some [.dead]), none, false⟩ := rfl
theorem TryzT_119 : TryzT 119 = ⟨.other, (some 1), (some 8), (some false), [], (some [.nilp]), none, false⟩ := rfl
theorem TryzT_120 : TryzT 120 = ⟨(.int .i32), (some 1), (some 4), (some false), [], (some [(.int .i32 0)]), none, false⟩ := rfl
theorem TryzT_121 : TryzT 121 = ⟨(.int .i32), (some 1), (some 4), (some false), [], (some [(.int .i32 0)]), none, false⟩ := rfl
theorem TryzT_122 : TryzT 122 = ⟨.agg, (some 11), (some 48), (some true), [(0, 12), (1, 12), (2, 44), (3, 116), (4, 5), (5, 5), (6, 117), (7, 118), (8, 119), (9, 120), (10, 121)], (some [(.int .u64 0), (.int .u64 0), (.int .u32 0), (.int .u8 0), (.int .u8 0), (.int .u8 0), (.int .u8 0), .dead, .nilp, (.int .i32 0), (.int .i32 0)]), none, true⟩ := rfl
theorem TryzT_123 : TryzT 123 = ⟨.agg, (some 11), (some 48), (some true), [(0, 12), (1, 12), (2, 44), (3, 116), (4, 5), (5, 5), (6, 117), (7, 118), (8, 119), (9, 120), (10, 121)], (some [(.int .u64 0), (.int .u64 0), (.int .u32 0), (.int .u8 0), (.int .u8 0), (.int .u8 0), (.int .u8 0), .dead, .nilp, (.int .i32 0), (.int .i32 0)]), none, true⟩ := rfl
theorem TryzT_124 : TryzT 124 = ⟨.other, (some 1), (some 8), (some false), [], (some [.nilp]), none, false⟩ := rfl
theorem TryzT_eq : TryzT = tiOf Tryz.prog := tiOf_table 125 (by kernel_rfl) (fun t h => by unfold TryzT; rw [h])
end Go.Proofs.YthhoellakpnjpaaGreat
