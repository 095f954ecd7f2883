import Derived.Test.YthhoellakpnjpaaMD
import Derived.Test.YthhoellakpnjpaaChecked
import Derived.KernelRfl
namespace Go.Proofs.Ythhoellakpnjpaa
open Go Go.Fm
set_option maxRecDepth 100000
instance : Globs := ⟨fun _ => none⟩
/-- What the machine knows of the program's types. -/
noncomputable def TryT (t : TypeId) : TyI := match Nat.blt t 159 with
  | false => tiOf Try.prog t
  | true => (match Nat.blt t 79 with
  | true => (match Nat.blt t 39 with
   | true => (match Nat.blt t 19 with
    | true => (match Nat.blt t 9 with
     | true => (match Nat.blt t 4 with
      | true => (match Nat.blt t 2 with
       | true => (match Nat.blt t 1 with
        | true => ⟨.other, (some 1), (some 0), (some false), [], none, none, false⟩
        | false => ⟨.other, (some 1), (some 8), (some false), [], (some [.dead]), none, false⟩)
       | false => (match Nat.blt t 3 with
        | true => ⟨(.int .i64), (some 1), (some 8), (some false), [], (some [(.int .i64 0)]), none, false⟩
        | false => ⟨(.int .i64), (some 1), (some 8), (some false), [], (some [(.int .i64 0)]), none, false⟩))
      | false => (match Nat.blt t 6 with
       | true => (match Nat.blt t 5 with
        | true => ⟨.bool, (some 1), (some 1), (some false), [], (some [(.bool false)]), none, false⟩
        | false => ⟨(.int .u8), (some 1), (some 1), (some false), [], (some [(.int .u8 0)]), none, false⟩)
       | false => (match Nat.blt t 7 with
        | true => ⟨(.int .u8), (some 1), (some 1), (some false), [], (some [(.int .u8 0)]), none, false⟩
        | false => (match Nat.blt t 8 with
         | true => ⟨.agg, (some 4), (some 24), (some true), [(0, 2), (1, 3), (2, 4), (3, 6)], (some [(.int .i64 0), (.int .i64 0), (.bool false), (.int .u8 0)]), (some [0, 0, 1, 0]), true⟩
         | false => ⟨.agg, (some 4), (some 24), (some true), [(0, 2), (1, 3), (2, 4), (3, 6)], (some [(.int .i64 0), (.int .i64 0), (.bool false), (.int .u8 0)]), (some [0, 0, 1, 0]), true⟩))))
     | false => (match Nat.blt t 14 with
      | true => (match Nat.blt t 11 with
       | true => (match Nat.blt t 10 with
        | true => ⟨.str, (some 1), (some 16), (some false), [], (some [(.str [])]), none, false⟩
        | false => ⟨.str, (some 1), (some 16), (some false), [], (some [(.str [])]), none, false⟩)
       | false => (match Nat.blt t 12 with
        | true => ⟨.str, (some 1), (some 16), (some false), [], (some [(.str [])]), none, false⟩
        | false => (match Nat.blt t 13 with
         | true => ⟨(.int .u64), (some 1), (some 8), (some false), [], (some [(.int .u64 0)]), none, false⟩
         | false => ⟨.agg, (some 2), (some 24), (some true), [(0, 9), (1, 12)], (some [(.str []), (.int .u64 0)]), none, true⟩)))
      | false => (match Nat.blt t 16 with
       | true => (match Nat.blt t 15 with
        | true => ⟨.agg, (some 2), (some 24), (some true), [(0, 9), (1, 12)], (some [(.str []), (.int .u64 0)]), none, true⟩
        | false => ⟨.other, (some 1), (some 8), (some false), [], (some [.nilp]), none, false⟩)
       | false => (match Nat.blt t 17 with
        | true => ⟨.other, (some 1), (some 8), (some false), [], (some [.nilp]), none, false⟩
        | false => (match Nat.blt t 18 with
         | true => ⟨.other, (some 1), (some 8), (some false), [], (some [.nilp]), none, false⟩
         | false => ⟨.agg, (some 1), (some 8), (some true), [(0, 17)], (some [.nilp]), none, true⟩)))))
    | false => (match Nat.blt t 29 with
     | true => (match Nat.blt t 24 with
      | true => (match Nat.blt t 21 with
       | true => (match Nat.blt t 20 with
        | true => ⟨.agg, (some 1), (some 8), (some true), [(0, 17)], (some [.nilp]), none, true⟩
        | false => ⟨.iface, (some 1), (some 16), (some false), [], (some [.nili]), none, false⟩)
       | false => (match Nat.blt t 22 with
        | true => ⟨(.int .i32), (some 1), (some 4), (some false), [], (some [(.int .i32 0)]), none, false⟩
        | false => (match Nat.blt t 23 with
         | true => ⟨(.slice 58), (some 1), (some 24), (some false), [], (some [.emp]), none, false⟩
         | false => ⟨.agg, (some 1), (some 24), (some true), [(0, 22)], (some [.emp]), none, true⟩)))
      | false => (match Nat.blt t 26 with
       | true => (match Nat.blt t 25 with
        | true => ⟨.agg, (some 1), (some 24), (some true), [(0, 22)], (some [.emp]), none, true⟩
        | false => ⟨.other, (some 1), (some 8), (some false), [], (some [.dead]), none, false⟩)
       | false => (match Nat.blt t 27 with
        | true => ⟨(.slice 3), (some 1), (some 24), (some false), [], (some [.emp]), none, false⟩
        | false => (match Nat.blt t 28 with
         | true => ⟨.other, (some 1), (some 8), (some false), [], (some [.dead]), none, false⟩
         | false => ⟨.agg, (some 1), (some 24), (some true), [(0, 22)], (some [.emp]), none, true⟩))))
     | false => (match Nat.blt t 34 with
      | true => (match Nat.blt t 31 with
       | true => (match Nat.blt t 30 with
        | true => ⟨.other, (some 1), (some 8), (some false), [], (some [.dead]), none, false⟩
        | false => ⟨.other, (some 1), (some 8), (some false), [], (some [.dead]), none, false⟩)
       | false => (match Nat.blt t 32 with
        | true => ⟨.other, (some 1), (some 8), (some false), [], (some [.dead]), none, false⟩
        | false => (match Nat.blt t 33 with
         | true => ⟨.other, (some 1), (some 8), (some false), [], (some [.dead]), none, false⟩
         | false => ⟨.other, (some 1), (some 8), (some false), [], (some [.dead]), none, false⟩)))
      | false => (match Nat.blt t 36 with
       | true => (match Nat.blt t 35 with
        | true => ⟨.other, (some 1), (some 8), (some false), [], (some [.dead]), none, false⟩
        | false => ⟨(.slice 9), (some 1), (some 24), (some false), [], (some [.emp]), none, false⟩)
       | false => (match Nat.blt t 37 with
        | true => ⟨.other, (some 1), (some 8), (some false), [], (some [.dead]), none, false⟩
        | false => (match Nat.blt t 38 with
         | true => ⟨.other, (some 1), (some 8), (some false), [], (some [.dead]), none, false⟩
         | false => ⟨.other, (some 1), (some 8), (some false), [], (some [.dead]), none, false⟩))))))
   | false => (match Nat.blt t 59 with
    | true => (match Nat.blt t 49 with
     | true => (match Nat.blt t 44 with
      | true => (match Nat.blt t 41 with
       | true => (match Nat.blt t 40 with
        | true => ⟨.other, (some 1), (some 8), (some false), [], (some [.dead]), none, false⟩
        | false => ⟨.other, (some 1), (some 0), (some false), [], none, none, false⟩)
       | false => (match Nat.blt t 42 with
        | true => ⟨.other, (some 1), (some 8), (some false), [], (some [.dead]), none, false⟩
        | false => (match Nat.blt t 43 with
         | true => ⟨.other, (some 1), (some 8), (some false), [], (some [.dead]), none, false⟩
         | false => ⟨(.slice 77), (some 1), (some 24), (some false), [], (some [.emp]), none, false⟩)))
      | false => (match Nat.blt t 46 with
       | true => (match Nat.blt t 45 with
        | true => ⟨.other, (some 1), (some 0), (some false), [], none, none, false⟩
        | false => ⟨.other, (some 1), (some 8), (some false), [], (some [.dead]), none, false⟩)
       | false => (match Nat.blt t 47 with
        | true => ⟨.other, (some 1), (some 8), (some false), [], (some [.dead]), none, false⟩
        | false => (match Nat.blt t 48 with
         | true => ⟨.other, (some 1), (some 8), (some false), [], (some [.dead]), none, false⟩
         | false => ⟨.other, (some 1), (some 8), (some false), [], (some [.dead]), none, false⟩))))
     | false => (match Nat.blt t 54 with
      | true => (match Nat.blt t 51 with
       | true => (match Nat.blt t 50 with
        | true => ⟨.other, (some 1), (some 8), (some false), [], (some [.dead]), none, false⟩
        | false => ⟨.other, (some 1), (some 8), (some false), [], (some [.dead]), none, false⟩)
       | false => (match Nat.blt t 52 with
        | true => ⟨(.slice 5), (some 1), (some 24), (some false), [], (some [.emp]), none, false⟩
        | false => (match Nat.blt t 53 with
         | true => ⟨.other, (some 1), (some 8), (some false), [], (some [.dead]), none, false⟩
         | false => ⟨.other, (some 1), (some 8), (some false), [], (some [.dead]), none, false⟩)))
      | false => (match Nat.blt t 56 with
       | true => (match Nat.blt t 55 with
        | true => ⟨.other, (some 1), (some 8), (some false), [], (some [.dead]), none, false⟩
        | false => ⟨.other, (some 1), (some 8), (some false), [], (some [.dead]), none, false⟩)
       | false => (match Nat.blt t 57 with
        | true => ⟨(.slice 62), (some 1), (some 24), (some false), [], (some [.emp]), none, false⟩
        | false => (match Nat.blt t 58 with
         | true => ⟨.other, (some 1), (some 8), (some false), [], (some [.dead]), none, false⟩
         | false => ⟨(.int .u32), (some 1), (some 4), (some false), [], (some [(.int .u32 0)]), none, false⟩)))))
    | false => (match Nat.blt t 69 with
     | true => (match Nat.blt t 64 with
      | true => (match Nat.blt t 61 with
       | true => (match Nat.blt t 60 with
        | true => ⟨.agg, (some 5), (some 40), (some true), [(0, 3), (1, 9), (2, 21), (3, 4), (4, 58)], (some [(.int .i64 0), (.str []), (.int .i32 0), (.bool false), (.int .u32 0)]), (some [0, 2, 0, 1, 0]), true⟩
        | false => ⟨.agg, (some 5), (some 40), (some true), [(0, 3), (1, 9), (2, 21), (3, 4), (4, 58)], (some [(.int .i64 0), (.str []), (.int .i32 0), (.bool false), (.int .u32 0)]), (some [0, 2, 0, 1, 0]), true⟩)
       | false => (match Nat.blt t 62 with
        | true => ⟨.agg, (some 6), (some 48), (some true), [(0, 60), (5, 3)], (some [(.int .i64 0), (.str []), (.int .i32 0), (.bool false), (.int .u32 0), (.int .i64 0)]), none, true⟩
        | false => (match Nat.blt t 63 with
         | true => ⟨.agg, (some 6), (some 48), (some true), [(0, 60), (5, 3)], (some [(.int .i64 0), (.str []), (.int .i32 0), (.bool false), (.int .u32 0), (.int .i64 0)]), none, true⟩
         | false => ⟨.other, (some 1), (some 8), (some false), [], (some [.dead]), none, false⟩)))
      | false => (match Nat.blt t 66 with
       | true => (match Nat.blt t 65 with
        | true => ⟨(.slice 60), (some 1), (some 24), (some false), [], (some [.emp]), none, false⟩
        | false => ⟨.other, (some 1), (some 0), (some false), [], none, none, false⟩)
       | false => (match Nat.blt t 67 with
        | true => ⟨.other, (some 1), (some 8), (some false), [], (some [.dead]), none, false⟩
        | false => (match Nat.blt t 68 with
         | true => ⟨.other, (some 1), (some 8), (some false), [], (some [.dead]), none, false⟩
         | false => ⟨.other, (some 1), (some 8), (some false), [], (some [.dead]), none, false⟩))))
     | false => (match Nat.blt t 74 with
      | true => (match Nat.blt t 71 with
       | true => (match Nat.blt t 70 with
        | true => ⟨.other, (some 1), (some 8), (some false), [], (some [.dead]), none, false⟩
        | false => ⟨.other, (some 1), (some 8), (some false), [], (some [.dead]), none, false⟩)
       | false => (match Nat.blt t 72 with
        | true => ⟨.other, (some 1), (some 8), (some false), [], (some [.dead]), none, false⟩
        | false => (match Nat.blt t 73 with
         | true => ⟨.other, (some 1), (some 8), (some false), [], (some [.dead]), none, false⟩
         | false => ⟨.other, (some 1), (some 8), (some false), [], (some [.dead]), none, false⟩)))
      | false => (match Nat.blt t 76 with
       | true => (match Nat.blt t 75 with
        | true => ⟨(.slice 26), (some 1), (some 24), (some false), [], (some [.emp]), none, false⟩
        | false => ⟨.other, (some 1), (some 8), (some false), [], (some [.dead]), none, false⟩)
       | false => (match Nat.blt t 77 with
        | true => ⟨.agg, (some 6), (some 48), (some true), [(0, 3), (1, 60)], (some [(.int .i64 0), (.int .i64 0), (.str []), (.int .i32 0), (.bool false), (.int .u32 0)]), none, true⟩
        | false => (match Nat.blt t 78 with
         | true => ⟨.agg, (some 6), (some 48), (some true), [(0, 3), (1, 60)], (some [(.int .i64 0), (.int .i64 0), (.str []), (.int .i32 0), (.bool false), (.int .u32 0)]), none, true⟩
         | false => ⟨.other, (some 1), (some 8), (some false), [], (some [.dead]), none, false⟩)))))))
  | false => (match Nat.blt t 119 with
   | true => (match Nat.blt t 99 with
    | true => (match Nat.blt t 89 with
     | true => (match Nat.blt t 84 with
      | true => (match Nat.blt t 81 with
       | true => (match Nat.blt t 80 with
        | true => ⟨.other, (some 1), (some 8), (some false), [], (some [.dead]), none, false⟩
        | false => ⟨.other, (some 1), (some 8), (some false), [], (some [.dead]), none, false⟩)
       | false => (match Nat.blt t 82 with
        | true => ⟨.other, (some 1), (some 8), (some false), [], (some [.nilp]), none, false⟩
        | false => (match Nat.blt t 83 with
         | true => ⟨.other, (some 1), (some 8), (some false), [], (some [.dead]), none, false⟩
         | false => ⟨.other, (some 1), (some 8), (some false), [], (some [.dead]), none, false⟩)))
      | false => (match Nat.blt t 86 with
       | true => (match Nat.blt t 85 with
        | true => ⟨.other, (some 1), (some 8), (some false), [], (some [.dead]), none, false⟩
        | false => ⟨.other, (some 1), (some 0), (some false), [], none, none, false⟩)
       | false => (match Nat.blt t 87 with
        | true => ⟨.other, (some 1), (some 8), (some false), [], (some [.dead]), none, false⟩
        | false => (match Nat.blt t 88 with
         | true => ⟨.other, (some 1), (some 8), (some false), [], (some [.dead]), none, false⟩
         | false => ⟨.other, (some 1), (some 8), (some false), [], (some [.dead]), none, false⟩))))
     | false => (match Nat.blt t 94 with
      | true => (match Nat.blt t 91 with
       | true => (match Nat.blt t 90 with
        | true => ⟨.other, (some 1), (some 8), (some false), [], (some [.dead]), none, false⟩
        | false => ⟨.other, (some 1), (some 8), (some false), [], (some [.dead]), none, false⟩)
       | false => (match Nat.blt t 92 with
        | true => ⟨.other, (some 1), (some 8), (some false), [], (some [.dead]), none, false⟩
        | false => (match Nat.blt t 93 with
         | true => ⟨.other, (some 1), (some 8), (some false), [], (some [.dead]), none, false⟩
         | false => ⟨.other, (some 1), (some 0), (some false), [], none, none, false⟩)))
      | false => (match Nat.blt t 96 with
       | true => (match Nat.blt t 95 with
        | true => ⟨.other, (some 1), (some 8), (some false), [], (some [.dead]), none, false⟩
        | false => ⟨.other, (some 1), (some 8), (some false), [], (some [.dead]), none, false⟩)
       | false => (match Nat.blt t 97 with
        | true => ⟨.other, (some 1), (some 8), (some false), [], (some [.dead]), none, false⟩
        | false => (match Nat.blt t 98 with
         | true => ⟨.other, (some 1), (some 8), (some false), [], (some [.dead]), none, false⟩
         | false => ⟨(.slice 43), (some 1), (some 24), (some false), [], (some [.emp]), none, false⟩)))))
    | false => (match Nat.blt t 109 with
     | true => (match Nat.blt t 104 with
      | true => (match Nat.blt t 101 with
       | true => (match Nat.blt t 100 with
        | true => ⟨.other, (some 1), (some 8), (some false), [], (some [.dead]), none, false⟩
        | false => ⟨.other, (some 1), (some 8), (some false), [], (some [.dead]), none, false⟩)
       | false => (match Nat.blt t 102 with
        | true => ⟨.agg, (some 3), (some 40), (some true), [(0, 51), (1, 3), (2, 3)], (some [.emp, (.int .i64 0), (.int .i64 0)]), none, true⟩
        | false => (match Nat.blt t 103 with
         | true => ⟨.agg, (some 3), (some 40), (some true), [(0, 51), (1, 3), (2, 3)], (some [.emp, (.int .i64 0), (.int .i64 0)]), none, true⟩
         | false => ⟨.other, (some 1), (some 8), (some false), [], (some [.dead]), none, false⟩)))
      | false => (match Nat.blt t 106 with
       | true => (match Nat.blt t 105 with
        | true => ⟨.other, (some 1), (some 8), (some false), [], (some [.dead]), none, false⟩
        | false => ⟨.other, (some 1), (some 8), (some false), [], (some [.dead]), none, false⟩)
       | false => (match Nat.blt t 107 with
        | true => ⟨.other, (some 1), (some 8), (some false), [], (some [.dead]), none, false⟩
        | false => (match Nat.blt t 108 with
         | true => ⟨.other, (some 1), (some 8), (some false), [], (some [.dead]), none, false⟩
         | false => ⟨(.int .u64), (some 1), (some 8), (some false), [], (some [(.int .u64 0)]), none, false⟩))))
     | false => (match Nat.blt t 114 with
      | true => (match Nat.blt t 111 with
       | true => (match Nat.blt t 110 with
        | true => ⟨.other, (some 1), (some 8), (some false), [], (some [.dead]), none, false⟩
        | false => ⟨.other, (some 1), (some 8), (some false), [], (some [.dead]), none, false⟩)
       | false => (match Nat.blt t 112 with
        | true => ⟨.other, (some 1), (some 8), (some false), [], (some [.dead]), none, false⟩
        | false => (match Nat.blt t 113 with
         | true => ⟨.other, (some 1), (some 8), (some false), [], (some [.dead]), none, false⟩
         | false => ⟨.other, (some 1), (some 8), (some false), [], (some [.dead]), none, false⟩)))
      | false => (match Nat.blt t 116 with
       | true => (match Nat.blt t 115 with
        | true => ⟨.other, (some 1), (some 8), (some false), [], (some [.dead]), none, false⟩
        | false => ⟨.other, (some 1), (some 8), (some false), [], (some [.dead]), none, false⟩)
       | false => (match Nat.blt t 117 with
        | true => ⟨.other, (some 1), (some 8), (some false), [], (some [.dead]), none, false⟩
        | false => (match Nat.blt t 118 with
         | true => ⟨.other, (some 1), (some 0), (some false), [], none, none, false⟩
         | false => ⟨.other, (some 1), (some 8), (some false), [], (some [.dead]), none, false⟩))))))
   | false => (match Nat.blt t 139 with
    | true => (match Nat.blt t 129 with
     | true => (match Nat.blt t 124 with
      | true => (match Nat.blt t 121 with
       | true => (match Nat.blt t 120 with
        | true => ⟨.other, (some 1), (some 8), (some false), [], (some [.dead]), none, false⟩
        | false => ⟨.other, (some 1), (some 8), (some false), [], (some [.dead]), none, false⟩)
       | false => (match Nat.blt t 122 with
        | true => ⟨.other, (some 1), (some 8), (some false), [], (some [.dead]), none, false⟩
        | false => (match Nat.blt t 123 with
         | true => ⟨.other, (some 1), (some 8), (some false), [], (some [.dead]), none, false⟩
         | false => ⟨.other, (some 1), (some 0), (some false), [], none, none, false⟩)))
      | false => (match Nat.blt t 126 with
       | true => (match Nat.blt t 125 with
        | true => ⟨.other, (some 1), (some 8), (some false), [], (some [.dead]), none, false⟩
        | false => ⟨.other, (some 1), (some 8), (some false), [], (some [.dead]), none, false⟩)
       | false => (match Nat.blt t 127 with
        | true => ⟨.other, (some 1), (some 8), (some false), [], (some [.dead]), none, false⟩
        | false => (match Nat.blt t 128 with
         | true => ⟨.other, (some 1), (some 0), (some false), [], none, none, false⟩
         | false => ⟨.other, (some 1), (some 8), (some false), [], (some [.dead]), none, false⟩))))
     | false => (match Nat.blt t 134 with
      | true => (match Nat.blt t 131 with
       | true => (match Nat.blt t 130 with
        | true => ⟨.other, (some 1), (some 8), (some false), [], (some [.dead]), none, false⟩
        | false => ⟨.other, (some 1), (some 8), (some false), [], (some [.dead]), none, false⟩)
       | false => (match Nat.blt t 132 with
        | true => ⟨.other, (some 1), (some 8), (some false), [], (some [.dead]), none, false⟩
        | false => (match Nat.blt t 133 with
         | true => ⟨.other, (some 1), (some 8), (some false), [], (some [.dead]), none, false⟩
         | false => ⟨.other, (some 1), (some 8), (some false), [], (some [.dead]), none, false⟩)))
      | false => (match Nat.blt t 136 with
       | true => (match Nat.blt t 135 with
        | true => ⟨.other, (some 1), (some 8), (some false), [], (some [.dead]), none, false⟩
        | false => ⟨.other, (some 1), (some 8), (some false), [], (some [.dead]), none, false⟩)
       | false => (match Nat.blt t 137 with
        | true => ⟨.other, (some 1), (some 8), (some false), [], (some [.dead]), none, false⟩
        | false => (match Nat.blt t 138 with
         | true => ⟨.other, (some 1), (some 8), (some false), [], (some [.dead]), none, false⟩
         | false => ⟨.other, (some 1), (some 8), (some false), [], (some [.dead]), none, false⟩)))))
    | false => (match Nat.blt t 149 with
     | true => (match Nat.blt t 144 with
      | true => (match Nat.blt t 141 with
       | true => (match Nat.blt t 140 with
        | true => ⟨.other, (some 1), (some 8), (some false), [], (some [.dead]), none, false⟩
        | false => ⟨.other, (some 1), (some 8), (some false), [], (some [.dead]), none, false⟩)
       | false => (match Nat.blt t 142 with
        | true => ⟨.other, (some 1), (some 8), (some false), [], (some [.dead]), none, false⟩
        | false => (match Nat.blt t 143 with
         | true => ⟨.other, (some 1), (some 8), (some false), [], (some [.dead]), none, false⟩
         | false => ⟨.other, (some 1), (some 8), (some false), [], (some [.dead]), none, false⟩)))
      | false => (match Nat.blt t 146 with
       | true => (match Nat.blt t 145 with
        | true => ⟨.agg, (some 4), (some 40), (some true), [(0, 17), (1, 17), (2, 17), (3, 9)], (some [.nilp, .nilp, .nilp, (.str [])]), none, true⟩
        | false => ⟨.agg, (some 4), (some 40), (some true), [(0, 17), (1, 17), (2, 17), (3, 9)], (some [.nilp, .nilp, .nilp, (.str [])]), none, true⟩)
       | false => (match Nat.blt t 147 with
        | true => ⟨.other, (some 0), (some 0), (some true), [], (some []), none, false⟩
        | false => (match Nat.blt t 148 with
         | true => ⟨.agg, (some 0), (some 0), (some true), [(0, 146)], (some []), none, true⟩
         | false => ⟨.agg, (some 0), (some 0), (some true), [(0, 146)], (some []), none, true⟩))))
     | false => (match Nat.blt t 154 with
      | true => (match Nat.blt t 151 with
       | true => (match Nat.blt t 150 with
        | true => ⟨.other, (some 1), (some 8), (some false), [], (some [.dead]), none, false⟩
        | false => ⟨(.int .u8), (some 1), (some 1), (some false), [], (some [(.int .u8 0)]), none, false⟩)
       | false => (match Nat.blt t 152 with
        | true => ⟨(.int .u8), (some 1), (some 1), (some false), [], (some [(.int .u8 0)]), none, false⟩
        | false => (match Nat.blt t 153 with
         | true => ⟨.other, (some 1), (some 8), (some false), [], (some [.dead]), none, false⟩
         | false => ⟨.other, (some 1), (some 8), (some false), [], (some [.nilp]), none, false⟩)))
      | false => (match Nat.blt t 156 with
       | true => (match Nat.blt t 155 with
        | true => ⟨(.int .i32), (some 1), (some 4), (some false), [], (some [(.int .i32 0)]), none, false⟩
        | false => ⟨(.int .i32), (some 1), (some 4), (some false), [], (some [(.int .i32 0)]), none, false⟩)
       | false => (match Nat.blt t 157 with
        | true => ⟨.agg, (some 11), (some 48), (some true), [(0, 12), (1, 12), (2, 58), (3, 150), (4, 5), (5, 5), (6, 151), (7, 152), (8, 153), (9, 154), (10, 155)], (some [(.int .u64 0), (.int .u64 0), (.int .u32 0), (.int .u8 0), (.int .u8 0), (.int .u8 0), (.int .u8 0), .dead, .nilp, (.int .i32 0), (.int .i32 0)]), none, true⟩
        | false => (match Nat.blt t 158 with
         | true => ⟨.agg, (some 11), (some 48), (some true), [(0, 12), (1, 12), (2, 58), (3, 150), (4, 5), (5, 5), (6, 151), (7, 152), (8, 153), (9, 154), (10, 155)], (some [(.int .u64 0), (.int .u64 0), (.int .u32 0), (.int .u8 0), (.int .u8 0), (.int .u8 0), (.int .u8 0), .dead, .nilp, (.int .i32 0), (.int .i32 0)]), none, true⟩
         | false => ⟨.other, (some 1), (some 8), (some false), [], (some [.nilp]), none, false⟩))))))))
theorem TryT_0 : TryT 0 = ⟨.other, (some 1), (some 0), (some false), [], none, none, false⟩ := rfl
theorem TryT_1 : TryT 1 = ⟨.other, (some 1), (some 8), (some false), [], (some [.dead]), none, false⟩ := rfl
theorem TryT_2 : TryT 2 = ⟨(.int .i64), (some 1), (some 8), (some false), [], (some [(.int .i64 0)]), none, false⟩ := rfl
theorem TryT_3 : TryT 3 = ⟨(.int .i64), (some 1), (some 8), (some false), [], (some [(.int .i64 0)]), none, false⟩ := rfl
theorem TryT_4 : TryT 4 = ⟨.bool, (some 1), (some 1), (some false), [], (some [(.bool false)]), none, false⟩ := rfl
theorem TryT_5 : TryT 5 = ⟨(.int .u8), (some 1), (some 1), (some false), [], (some [(.int .u8 0)]), none, false⟩ := rfl
theorem TryT_6 : TryT 6 = ⟨(.int .u8), (some 1), (some 1), (some false), [], (some [(.int .u8 0)]), none, false⟩ := rfl
theorem TryT_7 : TryT 7 = ⟨.agg, (some 4), (some 24), (some true), [(0, 2), (1, 3), (2, 4), (3, 6)], (some [(.int .i64 0), (.int .i64 0), (.bool false), (.int .u8 0)]), (some [0, 0, 1, 0]), true⟩ := rfl
theorem TryT_8 : TryT 8 = ⟨.agg, (some 4), (some 24), (some true), [(0, 2), (1, 3), (2, 4), (3, 6)], (some [(.int .i64 0), (.int .i64 0), (.bool false), (.int .u8 0)]), (some [0, 0, 1, 0]), true⟩ := rfl
theorem TryT_9 : TryT 9 = ⟨.str, (some 1), (some 16), (some false), [], (some [(.str [])]), none, false⟩ := rfl
theorem TryT_10 : TryT 10 = ⟨.str, (some 1), (some 16), (some false), [], (some [(.str [])]), none, false⟩ := rfl
theorem TryT_11 : TryT 11 = ⟨.str, (some 1), (some 16), (some false), [], (some [(.str [])]), none, false⟩ := rfl
theorem TryT_12 : TryT 12 = ⟨(.int .u64), (some 1), (some 8), (some false), [], (some [(.int .u64 0)]), none, false⟩ := rfl
theorem TryT_13 : TryT 13 = ⟨.agg, (some 2), (some 24), (some true), [(0, 9), (1, 12)], (some [(.str []), (.int .u64 0)]), none, true⟩ := rfl
theorem TryT_14 : TryT 14 = ⟨.agg, (some 2), (some 24), (some true), [(0, 9), (1, 12)], (some [(.str []), (.int .u64 0)]), none, true⟩ := rfl
theorem TryT_15 : TryT 15 = ⟨.other, (some 1), (some 8), (some false), [], (some [.nilp]), none, false⟩ := rfl
theorem TryT_16 : TryT 16 = ⟨.other, (some 1), (some 8), (some false), [], (some [.nilp]), none, false⟩ := rfl
theorem TryT_17 : TryT 17 = ⟨.other, (some 1), (some 8), (some false), [], (some [.nilp]), none, false⟩ := rfl
theorem TryT_18 : TryT 18 = ⟨.agg, (some 1), (some 8), (some true), [(0, 17)], (some [.nilp]), none, true⟩ := rfl
theorem TryT_19 : TryT 19 = ⟨.agg, (some 1), (some 8), (some true), [(0, 17)], (some [.nilp]), none, true⟩ := rfl
theorem TryT_20 : TryT 20 = ⟨.iface, (some 1), (some 16), (some false), [], (some [.nili]), none, false⟩ := rfl
theorem TryT_21 : TryT 21 = ⟨(.int .i32), (some 1), (some 4), (some false), [], (some [(.int .i32 0)]), none, false⟩ := rfl
theorem TryT_22 : TryT 22 = ⟨(.slice 58), (some 1), (some 24), (some false), [], (some [.emp]), none, false⟩ := rfl
theorem TryT_23 : TryT 23 = ⟨.agg, (some 1), (some 24), (some true), [(0, 22)], (some [.emp]), none, true⟩ := rfl
theorem TryT_24 : TryT 24 = ⟨.agg, (some 1), (some 24), (some true), [(0, 22)], (some [.emp]), none, true⟩ := rfl
theorem TryT_25 : TryT 25 = ⟨.other, (some 1), (some 8), (some false), [], (some [.dead]), none, false⟩ := rfl
theorem TryT_26 : TryT 26 = ⟨(.slice 3), (some 1), (some 24), (some false), [], (some [.emp]), none, false⟩ := rfl
theorem TryT_27 : TryT 27 = ⟨.other, (some 1), (some 8), (some false), [], (some [.dead]), none, false⟩ := rfl
theorem TryT_28 : TryT 28 = ⟨.agg, (some 1), (some 24), (some true), [(0, 22)], (some [.emp]), none, true⟩ := rfl
theorem TryT_29 : TryT 29 = ⟨.other, (some 1), (some 8), (some false), [], (some [.dead]), none, false⟩ := rfl
theorem TryT_30 : TryT 30 = ⟨.other, (some 1), (some 8), (some false), [], (some [.dead]), none, false⟩ := rfl
theorem TryT_31 : TryT 31 = ⟨.other, (some 1), (some 8), (some false), [], (some [.dead]), none, false⟩ := rfl
theorem TryT_32 : TryT 32 = ⟨.other, (some 1), (some 8), (some false), [], (some [.dead]), none, false⟩ := rfl
theorem TryT_33 : TryT 33 = ⟨.other, (some 1), (some 8), (some false), [], (some [.dead]), none, false⟩ := rfl
theorem TryT_34 : TryT 34 = ⟨.other, (some 1), (some 8), (some false), [], (some [.dead]), none, false⟩ := rfl
theorem TryT_35 : TryT 35 = ⟨(.slice 9), (some 1), (some 24), (some false), [], (some [.emp]), none, false⟩ := rfl
theorem TryT_36 : TryT 36 = ⟨.other, (some 1), (some 8), (some false), [], (some [.dead]), none, false⟩ := rfl
theorem TryT_37 : TryT 37 = ⟨.other, (some 1), (some 8), (some false), [], (some [.dead]), none, false⟩ := rfl
theorem TryT_38 : TryT 38 = ⟨.other, (some 1), (some 8), (some false), [], (some [.dead]), none, false⟩ := rfl
theorem TryT_39 : TryT 39 = ⟨.other, (some 1), (some 8), (some false), [], (some [.dead]), none, false⟩ := rfl
theorem TryT_40 : TryT 40 = ⟨.other, (some 1), (some 0), (some false), [], none, none, false⟩ := rfl
theorem TryT_41 : TryT 41 = ⟨.other, (some 1), (some 8), (some false), [], (some [.dead]), none, false⟩ := rfl
theorem TryT_42 : TryT 42 = ⟨.other, (some 1), (some 8), (some false), [], (some [.dead]), none, false⟩ := rfl
theorem TryT_43 : TryT 43 = ⟨(.slice 77), (some 1), (some 24), (some false), [], (some [.emp]), none, false⟩ := rfl
theorem TryT_44 : TryT 44 = ⟨.other, (some 1), (some 0), (some false), [], none, none, false⟩ := rfl
theorem TryT_45 : TryT 45 = ⟨.other, (some 1), (some 8), (some false), [], (some [.dead]), none, false⟩ := rfl
theorem TryT_46 : TryT 46 = ⟨.other, (some 1), (some 8), (some false), [], (some [.dead]), none, false⟩ := rfl
theorem TryT_47 : TryT 47 = ⟨.other, (some 1), (some 8), (some false), [], (some [.dead]), none, false⟩ := rfl
theorem TryT_48 : TryT 48 = ⟨.other, (some 1), (some 8), (some false), [], (some [.dead]), none, false⟩ := rfl
theorem TryT_49 : TryT 49 = ⟨.other, (some 1), (some 8), (some false), [], (some [.dead]), none, false⟩ := rfl
theorem TryT_50 : TryT 50 = ⟨.other, (some 1), (some 8), (some false), [], (some [.dead]), none, false⟩ := rfl
theorem TryT_51 : TryT 51 = ⟨(.slice 5), (some 1), (some 24), (some false), [], (some [.emp]), none, false⟩ := rfl
theorem TryT_52 : TryT 52 = ⟨.other, (some 1), (some 8), (some false), [], (some [.dead]), none, false⟩ := rfl
theorem TryT_53 : TryT 53 = ⟨.other, (some 1), (some 8), (some false), [], (some [.dead]), none, false⟩ := rfl
theorem TryT_54 : TryT 54 = ⟨.other, (some 1), (some 8), (some false), [], (some [.dead]), none, false⟩ := rfl
theorem TryT_55 : TryT 55 = ⟨.other, (some 1), (some 8), (some false), [], (some [.dead]), none, false⟩ := rfl
theorem TryT_56 : TryT 56 = ⟨(.slice 62), (some 1), (some 24), (some false), [], (some [.emp]), none, false⟩ := rfl
theorem TryT_57 : TryT 57 = ⟨.other, (some 1), (some 8), (some false), [], (some [.dead]), none, false⟩ := rfl
theorem TryT_58 : TryT 58 = ⟨(.int .u32), (some 1), (some 4), (some false), [], (some [(.int .u32 0)]), none, false⟩ := rfl
theorem TryT_59 : TryT 59 = ⟨.agg, (some 5), (some 40), (some true), [(0, 3), (1, 9), (2, 21), (3, 4), (4, 58)], (some [(.int .i64 0), (.str []), (.int .i32 0), (.bool false), (.int .u32 0)]), (some [0, 2, 0, 1, 0]), true⟩ := rfl
theorem TryT_60 : TryT 60 = ⟨.agg, (some 5), (some 40), (some true), [(0, 3), (1, 9), (2, 21), (3, 4), (4, 58)], (some [(.int .i64 0), (.str []), (.int .i32 0), (.bool false), (.int .u32 0)]), (some [0, 2, 0, 1, 0]), true⟩ := rfl
theorem TryT_61 : TryT 61 = ⟨.agg, (some 6), (some 48), (some true), [(0, 60), (5, 3)], (some [(.int .i64 0), (.str []), (.int .i32 0), (.bool false), (.int .u32 0), (.int .i64 0)]), none, true⟩ := rfl
theorem TryT_62 : TryT 62 = ⟨.agg, (some 6), (some 48), (some true), [(0, 60), (5, 3)], (some [(.int .i64 0), (.str []), (.int .i32 0), (.bool false), (.int .u32 0), (.int .i64 0)]), none, true⟩ := rfl
theorem TryT_63 : TryT 63 = ⟨.other, (some 1), (some 8), (some false), [], (some [.dead]), none, false⟩ := rfl
theorem TryT_64 : TryT 64 = ⟨(.slice 60), (some 1), (some 24), (some false), [], (some [.emp]), none, false⟩ := rfl
theorem TryT_65 : TryT 65 = ⟨.other, (some 1), (some 0), (some false), [], none, none, false⟩ := rfl
theorem TryT_66 : TryT 66 = ⟨.other, (some 1), (some 8), (some false), [], (some [.dead]), none, false⟩ := rfl
theorem TryT_67 : TryT 67 = ⟨.other, (some 1), (some 8), (some false), [], (some [.dead]), none, false⟩ := rfl
theorem TryT_68 : TryT 68 = ⟨.other, (some 1), (some 8), (some false), [], (some [.dead]), none, false⟩ := rfl
theorem TryT_69 : TryT 69 = ⟨.other, (some 1), (some 8), (some false), [], (some [.dead]), none, false⟩ := rfl
theorem TryT_70 : TryT 70 = ⟨.other, (some 1), (some 8), (some false), [], (some [.dead]), none, false⟩ := rfl
theorem TryT_71 : TryT 71 = ⟨.other, (some 1), (some 8), (some false), [], (some [.dead]), none, false⟩ := rfl
theorem TryT_72 : TryT 72 = ⟨.other, (some 1), (some 8), (some false), [], (some [.dead]), none, false⟩ := rfl
theorem TryT_73 : TryT 73 = ⟨.other, (some 1), (some 8), (some false), [], (some [.dead]), none, false⟩ := rfl
theorem TryT_74 : TryT 74 = ⟨(.slice 26), (some 1), (some 24), (some false), [], (some [.emp]), none, false⟩ := rfl
theorem TryT_75 : TryT 75 = ⟨.other, (some 1), (some 8), (some false), [], (some [.dead]), none, false⟩ := rfl
theorem TryT_76 : TryT 76 = ⟨.agg, (some 6), (some 48), (some true), [(0, 3), (1, 60)], (some [(.int .i64 0), (.int .i64 0), (.str []), (.int .i32 0), (.bool false), (.int .u32 0)]), none, true⟩ := rfl
theorem TryT_77 : TryT 77 = ⟨.agg, (some 6), (some 48), (some true), [(0, 3), (1, 60)], (some [(.int .i64 0), (.int .i64 0), (.str []), (.int .i32 0), (.bool false), (.int .u32 0)]), none, true⟩ := rfl
theorem TryT_78 : TryT 78 = ⟨.other, (some 1), (some 8), (some false), [], (some [.dead]), none, false⟩ := rfl
theorem TryT_79 : TryT 79 = ⟨.other, (some 1), (some 8), (some false), [], (some [.dead]), none, false⟩ := rfl
theorem TryT_80 : TryT 80 = ⟨.other, (some 1), (some 8), (some false), [], (some [.dead]), none, false⟩ := rfl
theorem TryT_81 : TryT 81 = ⟨.other, (some 1), (some 8), (some false), [], (some [.nilp]), none, false⟩ := rfl
theorem TryT_82 : TryT 82 = ⟨.other, (some 1), (some 8), (some false), [], (some [.dead]), none, false⟩ := rfl
theorem TryT_83 : TryT 83 = ⟨.other, (some 1), (some 8), (some false), [], (some [.dead]), none, false⟩ := rfl
theorem TryT_84 : TryT 84 = ⟨.other, (some 1), (some 8), (some false), [], (some [.dead]), none, false⟩ := rfl
theorem TryT_85 : TryT 85 = ⟨.other, (some 1), (some 0), (some false), [], none, none, false⟩ := rfl
theorem TryT_86 : TryT 86 = ⟨.other, (some 1), (some 8), (some false), [], (some [.dead]), none, false⟩ := rfl
theorem TryT_87 : TryT 87 = ⟨.other, (some 1), (some 8), (some false), [], (some [.dead]), none, false⟩ := rfl
theorem TryT_88 : TryT 88 = ⟨.other, (some 1), (some 8), (some false), [], (some [.dead]), none, false⟩ := rfl
theorem TryT_89 : TryT 89 = ⟨.other, (some 1), (some 8), (some false), [], (some [.dead]), none, false⟩ := rfl
theorem TryT_90 : TryT 90 = ⟨.other, (some 1), (some 8), (some false), [], (some [.dead]), none, false⟩ := rfl
theorem TryT_91 : TryT 91 = ⟨.other, (some 1), (some 8), (some false), [], (some [.dead]), none, false⟩ := rfl
theorem TryT_92 : TryT 92 = ⟨.other, (some 1), (some 8), (some false), [], (some [.dead]), none, false⟩ := rfl
theorem TryT_93 : TryT 93 = ⟨.other, (some 1), (some 0), (some false), [], none, none, false⟩ := rfl
theorem TryT_94 : TryT 94 = ⟨.other, (some 1), (some 8), (some false), [], (some [.dead]), none, false⟩ := rfl
theorem TryT_95 : TryT 95 = ⟨.other, (some 1), (some 8), (some false), [], (some [.dead]), none, false⟩ := rfl
theorem TryT_96 : TryT 96 = ⟨.other, (some 1), (some 8), (some false), [], (some [.dead]), none, false⟩ := rfl
theorem TryT_97 : TryT 97 = ⟨.other, (some 1), (some 8), (some false), [], (some [.dead]), none, false⟩ := rfl
theorem TryT_98 : TryT 98 = ⟨(.slice 43), (some 1), (some 24), (some false), [], (some [.emp]), none, false⟩ := rfl
theorem TryT_99 : TryT 99 = ⟨.other, (some 1), (some 8), (some false), [], (some [.dead]), none, false⟩ := rfl
theorem TryT_100 : TryT 100 = ⟨.other, (some 1), (some 8), (some false), [], (some [.dead]), none, false⟩ := rfl
theorem TryT_101 : TryT 101 = ⟨.agg, (some 3), (some 40), (some true), [(0, 51), (1, 3), (2, 3)], (some [.emp, (.int .i64 0), (.int .i64 0)]), none, true⟩ := rfl
theorem TryT_102 : TryT 102 = ⟨.agg, (some 3), (some 40), (some true), [(0, 51), (1, 3), (2, 3)], (some [.emp, (.int .i64 0), (.int .i64 0)]), none, true⟩ := rfl
theorem TryT_103 : TryT 103 = ⟨.other, (some 1), (some 8), (some false), [], (some [.dead]), none, false⟩ := rfl
theorem TryT_104 : TryT 104 = ⟨.other, (some 1), (some 8), (some false), [], (some [.dead]), none, false⟩ := rfl
theorem TryT_105 : TryT 105 = ⟨.other, (some 1), (some 8), (some false), [], (some [.dead]), none, false⟩ := rfl
theorem TryT_106 : TryT 106 = ⟨.other, (some 1), (some 8), (some false), [], (some [.dead]), none, false⟩ := rfl
theorem TryT_107 : TryT 107 = ⟨.other, (some 1), (some 8), (some false), [], (some [.dead]), none, false⟩ := rfl
theorem TryT_108 : TryT 108 = ⟨(.int .u64), (some 1), (some 8), (some false), [], (some [(.int .u64 0)]), none, false⟩ := rfl
theorem TryT_109 : TryT 109 = ⟨.other, (some 1), (some 8), (some false), [], (some [.dead]), none, false⟩ := rfl
theorem TryT_110 : TryT 110 = ⟨.other, (some 1), (some 8), (some false), [], (some [.dead]), none, false⟩ := rfl
theorem TryT_111 : TryT 111 = ⟨.other, (some 1), (some 8), (some false), [], (some [.dead]), none, false⟩ := rfl
theorem TryT_112 : TryT 112 = ⟨.other, (some 1), (some 8), (some false), [], (some [.dead]), none, false⟩ := rfl
theorem TryT_113 : TryT 113 = ⟨.other, (some 1), (some 8), (some false), [], (some [.dead]), none, false⟩ := rfl
theorem TryT_114 : TryT 114 = ⟨.other, (some 1), (some 8), (some false), [], (some [.dead]), none, false⟩ := rfl
theorem TryT_115 : TryT 115 = ⟨.other, (some 1), (some 8), (some false), [], (some [.dead]), none, false⟩ := rfl
theorem TryT_116 : TryT 116 = ⟨.other, (some 1), (some 8), (some false), [], (some [.dead]), none, false⟩ := rfl
theorem TryT_117 : TryT 117 = ⟨.other, (some 1), (some 0), (some false), [], none, none, false⟩ := rfl
theorem TryT_118 : TryT 118 = ⟨.other, (some 1), (some 8), (some false), [], (some [.dead]), none, false⟩ := rfl
theorem TryT_119 : TryT 119 = ⟨.other, (some 1), (some 8), (some false), [], (some [.dead]), none, false⟩ := rfl
theorem TryT_120 : TryT 120 = ⟨.other, (some 1), (some 8), (some false), [], (some [.dead]), none, false⟩ := rfl
theorem TryT_121 : TryT 121 = ⟨.other, (some 1), (some 8), (some false), [], (some [.dead]), none, false⟩ := rfl
theorem TryT_122 : TryT 122 = ⟨.other, (some 1), (some 8), (some false), [], (some [.dead]), none, false⟩ := rfl
theorem TryT_123 : TryT 123 = ⟨.other, (some 1), (some 0), (some false), [], none, none, false⟩ := rfl
theorem TryT_124 : TryT 124 = ⟨.other, (some 1), (some 8), (some false), [], (some [.dead]), none, false⟩ := rfl
theorem TryT_125 : TryT 125 = ⟨.other, (some 1), (some 8), (some false), [], (some [.dead]), none, false⟩ := rfl
theorem TryT_126 : TryT 126 = ⟨.other, (some 1), (some 8), (some false), [], (some [.dead]), none, false⟩ := rfl
theorem TryT_127 : TryT 127 = ⟨.other, (some 1), (some 0), (some false), [], none, none, false⟩ := rfl
theorem TryT_128 : TryT 128 = ⟨.other, (some 1), (some 8), (some false), [], (some [.dead]), none, false⟩ := rfl
theorem TryT_129 : TryT 129 = ⟨.other, (some 1), (some 8), (some false), [], (some [.dead]), none, false⟩ := rfl
theorem TryT_130 : TryT 130 = ⟨.other, (some 1), (some 8), (some false), [], (some [.dead]), none, false⟩ := rfl
theorem TryT_131 : TryT 131 = ⟨.other, (some 1), (some 8), (some false), [], (some [.dead]), none, false⟩ := rfl
theorem TryT_132 : TryT 132 = ⟨.other, (some 1), (some 8), (some false), [], (some [.dead]), none, false⟩ := rfl
theorem TryT_133 : TryT 133 = ⟨.other, (some 1), (some 8), (some false), [], (some [.dead]), none, false⟩ := rfl
theorem TryT_134 : TryT 134 = ⟨.other, (some 1), (some 8), (some false), [], (some [.dead]), none, false⟩ := rfl
theorem TryT_135 : TryT 135 = ⟨.other, (some 1), (some 8), (some false), [], (some [.dead]), none, false⟩ := rfl
theorem TryT_136 : TryT 136 = ⟨.other, (some 1), (some 8), (some false), [], (some [.dead]), none, false⟩ := rfl
theorem TryT_137 : TryT 137 = ⟨.other, (some 1), (some 8), (some false), [], (some [.dead]), none, false⟩ := rfl
theorem TryT_138 : TryT 138 = ⟨.other, (some 1), (some 8), (some false), [], (some [.dead]), none, false⟩ := rfl
theorem TryT_139 : TryT 139 = ⟨.other, (some 1), (some 8), (some false), [], (some [.dead]), none, false⟩ := rfl
theorem TryT_140 : TryT 140 = ⟨.other, (some 1), (some 8), (some false), [], (some [.dead]), none, false⟩ := rfl
theorem TryT_141 : TryT 141 = ⟨.other, (some 1), (some 8), (some false), [], (some [.dead]), none, false⟩ := rfl
theorem TryT_142 : TryT 142 = ⟨.other, (some 1), (some 8), (some false), [], (some [.dead]), none, false⟩ := rfl
theorem TryT_143 : TryT 143 = ⟨.other, (some 1), (some 8), (some false), [], (some [.dead]), none, false⟩ := rfl
theorem TryT_144 : TryT 144 = ⟨.agg, (some 4), (some 40), (some true), [(0, 17), (1, 17), (2, 17), (3, 9)], (some [.nilp, .nilp, .nilp, (.str [])]), none, true⟩ := rfl
theorem TryT_145 : TryT 145 = ⟨.agg, (some 4), (some 40), (some true), [(0, 17), (1, 17), (2, 17), (3, 9)], (some [.nilp, .nilp, .nilp, (.str [])]), none, true⟩ := rfl
theorem TryT_146 : TryT 146 = ⟨.other, (some 0), (some 0), (some true), [], (some []), none, false⟩ := rfl
theorem TryT_147 : TryT 147 = ⟨.agg, (some 0), (some 0), (some true), [(0, 146)], (some []), none, true⟩ := rfl
theorem TryT_148 : TryT 148 = ⟨.agg, (some 0), (some 0), (some true), [(0, 146)], (some []), none, true⟩ := rfl
theorem TryT_149 : TryT 149 = ⟨.other, (some 1), (some 8), (some false), [], (some [.dead]), none, false⟩ := rfl
theorem TryT_150 : TryT 150 = ⟨(.int .u8), (some 1), (some 1), (some false), [], (some [(.int .u8 0)]), none, false⟩ := rfl
theorem TryT_151 : TryT 151 = ⟨(.int .u8), (some 1), (some 1), (some false), [], (some [(.int .u8 0)]), none, false⟩ := rfl
theorem TryT_152 : TryT 152 = ⟨.other, (some 1), (some 8), (some false), [], (some [.dead]), none, false⟩ := rfl
theorem TryT_153 : TryT 153 = ⟨.other, (some 1), (some 8), (some false), [], (some [.nilp]), none, false⟩ := rfl
theorem TryT_154 : TryT 154 = ⟨(.int .i32), (some 1), (some 4), (some false), [], (some [(.int .i32 0)]), none, false⟩ := rfl
theorem TryT_155 : TryT 155 = ⟨(.int .i32), (some 1), (some 4), (some false), [], (some [(.int .i32 0)]), none, false⟩ := rfl
theorem TryT_156 : TryT 156 = ⟨.agg, (some 11), (some 48), (some true), [(0, 12), (1, 12), (2, 58), (3, 150), (4, 5), (5, 5), (6, 151), (7, 152), (8, 153), (9, 154), (10, 155)], (some [(.int .u64 0), (.int .u64 0), (.int .u32 0), (.int .u8 0), (.int .u8 0), (.int .u8 0), (.int .u8 0), .dead, .nilp, (.int .i32 0), (.int .i32 0)]), none, true⟩ := rfl
theorem TryT_157 : TryT 157 = ⟨.agg, (some 11), (some 48), (some true), [(0, 12), (1, 12), (2, 58), (3, 150), (4, 5), (5, 5), (6, 151), (7, 152), (8, 153), (9, 154), (10, 155)], (some [(.int .u64 0), (.int .u64 0), (.int .u32 0), (.int .u8 0), (.int .u8 0), (.int .u8 0), (.int .u8 0), .dead, .nilp, (.int .i32 0), (.int .i32 0)]), none, true⟩ := rfl
theorem TryT_158 : TryT 158 = ⟨.other, (some 1), (some 8), (some false), [], (some [.nilp]), none, false⟩ := rfl
theorem TryT_eq : TryT = tiOf Try.prog := tiOf_table 159 (by kernel_rfl) (fun t h => by unfold TryT; rw [h])
end Go.Proofs.Ythhoellakpnjpaa
