import Derived.Test.YtigaffddnidkpaaMD
import Derived.Test.YtigaffddnidkpaaChecked
import Derived.KernelRfl
namespace Go.Proofs.Ytigaffddnidkpaa
open Go Go.Fm
set_option maxRecDepth 100000
instance : Globs := ⟨fun _ => none⟩
/-- What the machine knows of the program's types. -/
noncomputable def TryT (t : TypeId) : TyI := match Nat.blt t 79 with
  | false => tiOf Try.prog t
  | true => (match Nat.blt t 39 with
  | true => (match Nat.blt t 19 with
   | true => (match Nat.blt t 9 with
    | true => (match Nat.blt t 4 with
     | true => (match Nat.blt t 2 with
      | true => (match Nat.blt t 1 with
       | true => ⟨.other, (some 1), (some 0), (some false), [], none, none, false⟩
       | false => ⟨.other, (some 1), (some 8), (some false), [], (some [.dead]), none, false⟩)
      | false => (match Nat.blt t 3 with
       | true => ⟨(.int .i64), (some 1), (some 8), (some false), [], (some [(.int .i64 0)]), none, false⟩
       | false => ⟨(.int .i64), (some 1), (some 8), (some false), [], (some [(.int .i64 0)]), none, false⟩))
     | false => (match Nat.blt t 6 with
      | true => (match Nat.blt t 5 with
       | true => ⟨.bool, (some 1), (some 1), (some false), [], (some [(.bool false)]), none, false⟩
       | false => ⟨(.int .u8), (some 1), (some 1), (some false), [], (some [(.int .u8 0)]), none, false⟩)
      | false => (match Nat.blt t 7 with
       | true => ⟨(.int .u8), (some 1), (some 1), (some false), [], (some [(.int .u8 0)]), none, false⟩
       | false => (match Nat.blt t 8 with
        | true => ⟨.agg, (some 4), (some 24), (some true), [(0, 2), (1, 3), (2, 4), (3, 6)], (some [(.int .i64 0), (.int .i64 0), (.bool false), (.int .u8 0)]), (some [0, 0, 1, 0]), true⟩
        | false => ⟨.agg, (some 4), (some 24), (some true), [(0, 2), (1, 3), (2, 4), (3, 6)], (some [(.int .i64 0), (.int .i64 0), (.bool false), (.int .u8 0)]), (some [0, 0, 1, 0]), true⟩))))
    | false => (match Nat.blt t 14 with
     | true => (match Nat.blt t 11 with
      | true => (match Nat.blt t 10 with
       | true => ⟨.str, (some 1), (some 16), (some false), [], (some [(.str [])]), none, false⟩
       | false => ⟨.str, (some 1), (some 16), (some false), [], (some [(.str [])]), none, false⟩)
      | false => (match Nat.blt t 12 with
       | true => ⟨.str, (some 1), (some 16), (some false), [], (some [(.str [])]), none, false⟩
       | false => (match Nat.blt t 13 with
        | true => ⟨(.int .u64), (some 1), (some 8), (some false), [], (some [(.int .u64 0)]), none, false⟩
        | false => ⟨.agg, (some 2), (some 24), (some true), [(0, 9), (1, 12)], (some [(.str []), (.int .u64 0)]), none, true⟩)))
     | false => (match Nat.blt t 16 with
      | true => (match Nat.blt t 15 with
       | true => ⟨.agg, (some 2), (some 24), (some true), [(0, 9), (1, 12)], (some [(.str []), (.int .u64 0)]), none, true⟩
       | false => ⟨.other, (some 1), (some 8), (some false), [], (some [.nilp]), none, false⟩)
      | false => (match Nat.blt t 17 with
       | true => ⟨.other, (some 1), (some 8), (some false), [], (some [.nilp]), none, false⟩
       | false => (match Nat.blt t 18 with
        | true => ⟨.other, (some 1), (some 8), (some false), [], (some [.nilp]), none, false⟩
        | false => ⟨.agg, (some 1), (some 8), (some true), [(0, 17)], (some [.nilp]), none, true⟩)))))
   | false => (match Nat.blt t 29 with
    | true => (match Nat.blt t 24 with
     | true => (match Nat.blt t 21 with
      | true => (match Nat.blt t 20 with
       | true => ⟨.agg, (some 1), (some 8), (some true), [(0, 17)], (some [.nilp]), none, true⟩
       | false => ⟨.iface, (some 1), (some 16), (some false), [], (some [.nili]), none, false⟩)
      | false => (match Nat.blt t 22 with
       | true => ⟨(.int .i32), (some 1), (some 4), (some false), [], (some [(.int .i32 0)]), none, false⟩
       | false => (match Nat.blt t 23 with
        | true => ⟨(.slice 36), (some 1), (some 24), (some false), [], (some [.emp]), none, false⟩
        | false => ⟨.other, (some 1), (some 8), (some false), [], (some [.dead]), none, false⟩)))
     | false => (match Nat.blt t 26 with
      | true => (match Nat.blt t 25 with
       | true => ⟨.other, (some 1), (some 8), (some false), [], (some [.dead]), none, false⟩
       | false => ⟨(.slice 40), (some 1), (some 24), (some false), [], (some [.emp]), none, false⟩)
      | false => (match Nat.blt t 27 with
       | true => ⟨.other, (some 1), (some 8), (some false), [], (some [.dead]), none, false⟩
       | false => (match Nat.blt t 28 with
        | true => ⟨.other, (some 1), (some 8), (some false), [], (some [.dead]), none, false⟩
        | false => ⟨.other, (some 1), (some 8), (some false), [], (some [.dead]), none, false⟩))))
    | false => (match Nat.blt t 34 with
     | true => (match Nat.blt t 31 with
      | true => (match Nat.blt t 30 with
       | true => ⟨(.slice 5), (some 1), (some 24), (some false), [], (some [.emp]), none, false⟩
       | false => ⟨.other, (some 1), (some 8), (some false), [], (some [.dead]), none, false⟩)
      | false => (match Nat.blt t 32 with
       | true => ⟨.other, (some 1), (some 0), (some false), [], none, none, false⟩
       | false => (match Nat.blt t 33 with
        | true => ⟨.other, (some 1), (some 8), (some false), [], (some [.dead]), none, false⟩
        | false => ⟨.other, (some 1), (some 8), (some false), [], (some [.dead]), none, false⟩)))
     | false => (match Nat.blt t 36 with
      | true => (match Nat.blt t 35 with
       | true => ⟨(.int .u32), (some 1), (some 4), (some false), [], (some [(.int .u32 0)]), none, false⟩
       | false => ⟨.agg, (some 5), (some 40), (some true), [(0, 3), (1, 9), (2, 21), (3, 4), (4, 34)], (some [(.int .i64 0), (.str []), (.int .i32 0), (.bool false), (.int .u32 0)]), (some [0, 2, 0, 1, 0]), true⟩)
      | false => (match Nat.blt t 37 with
       | true => ⟨.agg, (some 5), (some 40), (some true), [(0, 3), (1, 9), (2, 21), (3, 4), (4, 34)], (some [(.int .i64 0), (.str []), (.int .i32 0), (.bool false), (.int .u32 0)]), (some [0, 2, 0, 1, 0]), true⟩
       | false => (match Nat.blt t 38 with
        | true => ⟨(.slice 3), (some 1), (some 24), (some false), [], (some [.emp]), none, false⟩
        | false => ⟨(.slice 37), (some 1), (some 24), (some false), [], (some [.emp]), none, false⟩))))))
  | false => (match Nat.blt t 59 with
   | true => (match Nat.blt t 49 with
    | true => (match Nat.blt t 44 with
     | true => (match Nat.blt t 41 with
      | true => (match Nat.blt t 40 with
       | true => ⟨.other, (some 1), (some 8), (some false), [], (some [.dead]), none, false⟩
       | false => ⟨.agg, (some 5), (some 40), (some true), [(0, 3), (1, 9), (2, 21), (3, 4), (4, 34)], (some [(.int .i64 0), (.str []), (.int .i32 0), (.bool false), (.int .u32 0)]), (some [0, 2, 0, 1, 0]), true⟩)
      | false => (match Nat.blt t 42 with
       | true => ⟨.other, (some 1), (some 8), (some false), [], (some [.dead]), none, false⟩
       | false => (match Nat.blt t 43 with
        | true => ⟨.other, (some 1), (some 8), (some false), [], (some [.dead]), none, false⟩
        | false => ⟨.other, (some 1), (some 8), (some false), [], (some [.nilp]), none, false⟩)))
     | false => (match Nat.blt t 46 with
      | true => (match Nat.blt t 45 with
       | true => ⟨.other, (some 1), (some 8), (some false), [], (some [.dead]), none, false⟩
       | false => ⟨.other, (some 1), (some 8), (some false), [], (some [.dead]), none, false⟩)
      | false => (match Nat.blt t 47 with
       | true => ⟨.other, (some 1), (some 8), (some false), [], (some [.dead]), none, false⟩
       | false => (match Nat.blt t 48 with
        | true => ⟨.other, (some 1), (some 8), (some false), [], (some [.dead]), none, false⟩
        | false => ⟨.other, (some 1), (some 8), (some false), [], (some [.dead]), none, false⟩))))
    | false => (match Nat.blt t 54 with
     | true => (match Nat.blt t 51 with
      | true => (match Nat.blt t 50 with
       | true => ⟨.other, (some 1), (some 8), (some false), [], (some [.dead]), none, false⟩
       | false => ⟨.agg, (some 3), (some 40), (some true), [(0, 29), (1, 3), (2, 3)], (some [.emp, (.int .i64 0), (.int .i64 0)]), none, true⟩)
      | false => (match Nat.blt t 52 with
       | true => ⟨.agg, (some 3), (some 40), (some true), [(0, 29), (1, 3), (2, 3)], (some [.emp, (.int .i64 0), (.int .i64 0)]), none, true⟩
       | false => (match Nat.blt t 53 with
        | true => ⟨.other, (some 1), (some 8), (some false), [], (some [.dead]), none, false⟩
        | false => ⟨.other, (some 1), (some 8), (some false), [], (some [.dead]), none, false⟩)))
     | false => (match Nat.blt t 56 with
      | true => (match Nat.blt t 55 with
       | true => ⟨.other, (some 1), (some 8), (some false), [], (some [.dead]), none, false⟩
       | false => ⟨.other, (some 1), (some 8), (some false), [], (some [.dead]), none, false⟩)
      | false => (match Nat.blt t 57 with
       | true => ⟨(.slice 9), (some 1), (some 24), (some false), [], (some [.emp]), none, false⟩
       | false => (match Nat.blt t 58 with
        | true => ⟨.other, (some 1), (some 8), (some false), [], (some [.dead]), none, false⟩
        | false => ⟨.other, (some 1), (some 8), (some false), [], (some [.dead]), none, false⟩)))))
   | false => (match Nat.blt t 69 with
    | true => (match Nat.blt t 64 with
     | true => (match Nat.blt t 61 with
      | true => (match Nat.blt t 60 with
       | true => ⟨(.int .u64), (some 1), (some 8), (some false), [], (some [(.int .u64 0)]), none, false⟩
       | false => ⟨.other, (some 1), (some 8), (some false), [], (some [.dead]), none, false⟩)
      | false => (match Nat.blt t 62 with
       | true => ⟨.other, (some 1), (some 8), (some false), [], (some [.dead]), none, false⟩
       | false => (match Nat.blt t 63 with
        | true => ⟨.other, (some 1), (some 8), (some false), [], (some [.dead]), none, false⟩
        | false => ⟨.other, (some 1), (some 8), (some false), [], (some [.dead]), none, false⟩)))
     | false => (match Nat.blt t 66 with
      | true => (match Nat.blt t 65 with
       | true => ⟨.agg, (some 4), (some 40), (some true), [(0, 17), (1, 17), (2, 17), (3, 9)], (some [.nilp, .nilp, .nilp, (.str [])]), none, true⟩
       | false => ⟨.agg, (some 4), (some 40), (some true), [(0, 17), (1, 17), (2, 17), (3, 9)], (some [.nilp, .nilp, .nilp, (.str [])]), none, true⟩)
      | false => (match Nat.blt t 67 with
       | true => ⟨.other, (some 0), (some 0), (some true), [], (some []), none, false⟩
       | false => (match Nat.blt t 68 with
        | true => ⟨.agg, (some 0), (some 0), (some true), [(0, 66)], (some []), none, true⟩
        | false => ⟨.agg, (some 0), (some 0), (some true), [(0, 66)], (some []), none, true⟩))))
    | false => (match Nat.blt t 74 with
     | true => (match Nat.blt t 71 with
      | true => (match Nat.blt t 70 with
       | true => ⟨.other, (some 1), (some 8), (some false), [], (some [.dead]), none, false⟩
       | false => ⟨(.int .u8), (some 1), (some 1), (some false), [], (some [(.int .u8 0)]), none, false⟩)
      | false => (match Nat.blt t 72 with
       | true => ⟨(.int .u8), (some 1), (some 1), (some false), [], (some [(.int .u8 0)]), none, false⟩
       | false => (match Nat.blt t 73 with
        | true => ⟨.other, (some 1), (some 8), (some false), [], (some [.dead]), none, false⟩
        | false => ⟨.other, (some 1), (some 8), (some false), [], (some [.nilp]), none, false⟩)))
     | false => (match Nat.blt t 76 with
      | true => (match Nat.blt t 75 with
       | true => ⟨(.int .i32), (some 1), (some 4), (some false), [], (some [(.int .i32 0)]), none, false⟩
       | false => ⟨(.int .i32), (some 1), (some 4), (some false), [], (some [(.int .i32 0)]), none, false⟩)
      | false => (match Nat.blt t 77 with
       | true => ⟨.agg, (some 11), (some 48), (some true), [(0, 12), (1, 12), (2, 34), (3, 70), (4, 5), (5, 5), (6, 71), (7, 72), (8, 73), (9, 74), (10, 75)], (some [(.int .u64 0), (.int .u64 0), (.int .u32 0), (.int .u8 0), (.int .u8 0), (.int .u8 0), (.int .u8 0), .dead, .nilp, (.int .i32 0), (.int .i32 0)]), none, true⟩
       | false => (match Nat.blt t 78 with
        | true => ⟨.agg, (some 11), (some 48), (some true), [(0, 12), (1, 12), (2, 34), (3, 70), (4, 5), (5, 5), (6, 71), (7, 72), (8, 73), (9, 74), (10, 75)], (some [(.int .u64 0), (.int .u64 0), (.int .u32 0), (.int .u8 0), (.int .u8 0), (.int .u8 0), (.int .u8 0), .dead, .nilp, (.int .i32 0), (.int .i32 0)]), none, true⟩
        | false => ⟨.other, (some 1), (some 8), (some false), [], (some [.nilp]), none, false⟩)))))))
theorem TryT_0 : TryT 0 = ⟨.other, (some 1), (some 0), (some false), [], none, none, false⟩ := rfl
theorem TryT_1 : TryT 1 = ⟨.other, (some 1), (some 8), (some false), [], (some [.dead]), none, false⟩ := rfl
theorem TryT_2 : TryT 2 = ⟨(.int .i64), (some 1), (some 8), (some false), [], (some [(.int .i64 0)]), none, false⟩ := rfl
theorem TryT_3 : TryT 3 = ⟨(.int .i64), (some 1), (some 8), (some false), [], (some [(.int .i64 0)]), none, false⟩ := rfl
theorem TryT_4 : TryT 4 = ⟨.bool, (some 1), (some 1), (some false), [], (some [(.bool false)]), none, false⟩ := rfl
theorem TryT_5 : TryT 5 = ⟨(.int .u8), (some 1), (some 1), (some false), [], (some [(.int .u8 0)]), none, false⟩ := rfl
theorem TryT_6 : TryT 6 = ⟨(.int .u8), (some 1), (some 1), (some false), [], (some [(.int .u8 0)]), none, false⟩ := rfl
theorem TryT_7 : TryT 7 = ⟨.agg, (some 4), (some 24), (some true), [(0, 2), (1, 3), (2, 4), (3, 6)], (some [(.int .i64 0), (.int .i64 0), (.bool false), (.int .u8 0)]), (some [0, 0, 1, 0]), true⟩ := rfl
theorem TryT_8 : TryT 8 = ⟨.agg, (some 4), (some 24), (some true), [(0, 2), (1, 3), (2, 4), (3, 6)], (some [(.int .i64 0), (.int .i64 0), (.bool false), (.int .u8 0)]), (some [0, 0, 1, 0]), true⟩ := rfl
theorem TryT_9 : TryT 9 = ⟨.str, (some 1), (some 16), (some false), [], (some [(.str [])]), none, false⟩ := rfl
theorem TryT_10 : TryT 10 = ⟨.str, (some 1), (some 16), (some false), [], (some [(.str [])]), none, false⟩ := rfl
theorem TryT_11 : TryT 11 = ⟨.str, (some 1), (some 16), (some false), [], (some [(.str [])]), none, false⟩ := rfl
theorem TryT_12 : TryT 12 = ⟨(.int .u64), (some 1), (some 8), (some false), [], (some [(.int .u64 0)]), none, false⟩ := rfl
theorem TryT_13 : TryT 13 = ⟨.agg, (some 2), (some 24), (some true), [(0, 9), (1, 12)], (some [(.str []), (.int .u64 0)]), none, true⟩ := rfl
theorem TryT_14 : TryT 14 = ⟨.agg, (some 2), (some 24), (some true), [(0, 9), (1, 12)], (some [(.str []), (.int .u64 0)]), none, true⟩ := rfl
theorem TryT_15 : TryT 15 = ⟨.other, (some 1), (some 8), (some false), [], (some [.nilp]), none, false⟩ := rfl
theorem TryT_16 : TryT 16 = ⟨.other, (some 1), (some 8), (some false), [], (some [.nilp]), none, false⟩ := rfl
theorem TryT_17 : TryT 17 = ⟨.other, (some 1), (some 8), (some false), [], (some [.nilp]), none, false⟩ := rfl
theorem TryT_18 : TryT 18 = ⟨.agg, (some 1), (some 8), (some true), [(0, 17)], (some [.nilp]), none, true⟩ := rfl
theorem TryT_19 : TryT 19 = ⟨.agg, (some 1), (some 8), (some true), [(0, 17)], (some [.nilp]), none, true⟩ := rfl
theorem TryT_20 : TryT 20 = ⟨.iface, (some 1), (some 16), (some false), [], (some [.nili]), none, false⟩ := rfl
theorem TryT_21 : TryT 21 = ⟨(.int .i32), (some 1), (some 4), (some false), [], (some [(.int .i32 0)]), none, false⟩ := rfl
theorem TryT_22 : TryT 22 = ⟨(.slice 36), (some 1), (some 24), (some false), [], (some [.emp]), none, false⟩ := rfl
theorem TryT_23 : TryT 23 = ⟨.other, (some 1), (some 8), (some false), [], (some [.dead]), none, false⟩ := rfl
theorem TryT_24 : TryT 24 = ⟨.other, (some 1), (some 8), (some false), [], (some [.dead]), none, false⟩ := rfl
theorem TryT_25 : TryT 25 = ⟨(.slice 40), (some 1), (some 24), (some false), [], (some [.emp]), none, false⟩ := rfl
theorem TryT_26 : TryT 26 = ⟨.other, (some 1), (some 8), (some false), [], (some [.dead]), none, false⟩ := rfl
theorem TryT_27 : TryT 27 = ⟨.other, (some 1), (some 8), (some false), [], (some [.dead]), none, false⟩ := rfl
theorem TryT_28 : TryT 28 = ⟨.other, (some 1), (some 8), (some false), [], (some [.dead]), none, false⟩ := rfl
theorem TryT_29 : TryT 29 = ⟨(.slice 5), (some 1), (some 24), (some false), [], (some [.emp]), none, false⟩ := rfl
theorem TryT_30 : TryT 30 = ⟨.other, (some 1), (some 8), (some false), [], (some [.dead]), none, false⟩ := rfl
theorem TryT_31 : TryT 31 = ⟨.other, (some 1), (some 0), (some false), [], none, none, false⟩ := rfl
theorem TryT_32 : TryT 32 = ⟨.other, (some 1), (some 8), (some false), [], (some [.dead]), none, false⟩ := rfl
theorem TryT_33 : TryT 33 = ⟨.other, (some 1), (some 8), (some false), [], (some [.dead]), none, false⟩ := rfl
theorem TryT_34 : TryT 34 = ⟨(.int .u32), (some 1), (some 4), (some false), [], (some [(.int .u32 0)]), none, false⟩ := rfl
theorem TryT_35 : TryT 35 = ⟨.agg, (some 5), (some 40), (some true), [(0, 3), (1, 9), (2, 21), (3, 4), (4, 34)], (some [(.int .i64 0), (.str []), (.int .i32 0), (.bool false), (.int .u32 0)]), (some [0, 2, 0, 1, 0]), true⟩ := rfl
theorem TryT_36 : TryT 36 = ⟨.agg, (some 5), (some 40), (some true), [(0, 3), (1, 9), (2, 21), (3, 4), (4, 34)], (some [(.int .i64 0), (.str []), (.int .i32 0), (.bool false), (.int .u32 0)]), (some [0, 2, 0, 1, 0]), true⟩ := rfl
theorem TryT_37 : TryT 37 = ⟨(.slice 3), (some 1), (some 24), (some false), [], (some [.emp]), none, false⟩ := rfl
theorem TryT_38 : TryT 38 = ⟨(.slice 37), (some 1), (some 24), (some false), [], (some [.emp]), none, false⟩ := rfl
theorem TryT_39 : TryT 39 = ⟨.other, (some 1), (some 8), (some false), [], (some [.dead]), none, false⟩ := rfl
theorem TryT_40 : TryT 40 = ⟨.agg, (some 5), (some 40), (some true), [(0, 3), (1, 9), (2, 21), (3, 4), (4, 34)], (some [(.int .i64 0), (.str []), (.int .i32 0), (.bool false), (.int .u32 0)]), (some [0, 2, 0, 1, 0]), true⟩ := rfl
theorem TryT_41 : TryT 41 = ⟨.other, (some 1), (some 8), (some false), [], (some [.dead]), none, false⟩ := rfl
theorem TryT_42 : TryT 42 = ⟨.other, (some 1), (some 8), (some false), [], (some [.dead]), none, false⟩ := rfl
theorem TryT_43 : TryT 43 = ⟨.other, (some 1), (some 8), (some false), [], (some [.nilp]), none, false⟩ := rfl
theorem TryT_44 : TryT 44 = ⟨.other, (some 1), (some 8), (some false), [], (some [.dead]), none, false⟩ := rfl
theorem TryT_45 : TryT 45 = ⟨.other, (some 1), (some 8), (some false), [], (some [.dead]), none, false⟩ := rfl
theorem TryT_46 : TryT 46 = ⟨.other, (some 1), (some 8), (some false), [], (some [.dead]), none, false⟩ := rfl
theorem TryT_47 : TryT 47 = ⟨.other, (some 1), (some 8), (some false), [], (some [.dead]), none, false⟩ := rfl
theorem TryT_48 : TryT 48 = ⟨.other, (some 1), (some 8), (some false), [], (some [.dead]), none, false⟩ := rfl
theorem TryT_49 : TryT 49 = ⟨.other, (some 1), (some 8), (some false), [], (some [.dead]), none, false⟩ := rfl
theorem TryT_50 : TryT 50 = ⟨.agg, (some 3), (some 40), (some true), [(0, 29), (1, 3), (2, 3)], (some [.emp, (.int .i64 0), (.int .i64 0)]), none, true⟩ := rfl
theorem TryT_51 : TryT 51 = ⟨.agg, (some 3), (some 40), (some true), [(0, 29), (1, 3), (2, 3)], (some [.emp, (.int .i64 0), (.int .i64 0)]), none, true⟩ := rfl
theorem TryT_52 : TryT 52 = ⟨.other, (some 1), (some 8), (some false), [], (some [.dead]), none, false⟩ := rfl
theorem TryT_53 : TryT 53 = ⟨.other, (some 1), (some 8), (some false), [], (some [.dead]), none, false⟩ := rfl
theorem TryT_54 : TryT 54 = ⟨.other, (some 1), (some 8), (some false), [], (some [.dead]), none, false⟩ := rfl
theorem TryT_55 : TryT 55 = ⟨.other, (some 1), (some 8), (some false), [], (some [.dead]), none, false⟩ := rfl
theorem TryT_56 : TryT 56 = ⟨(.slice 9), (some 1), (some 24), (some false), [], (some [.emp]), none, false⟩ := rfl
theorem TryT_57 : TryT 57 = ⟨.other, (some 1), (some 8), (some false), [], (some [.dead]), none, false⟩ := rfl
theorem TryT_58 : TryT 58 = ⟨.other, (some 1), (some 8), (some false), [], (some [.dead]), none, false⟩ := rfl
theorem TryT_59 : TryT 59 = ⟨(.int .u64), (some 1), (some 8), (some false), [], (some [(.int .u64 0)]), none, false⟩ := rfl
theorem TryT_60 : TryT 60 = ⟨.other, (some 1), (some 8), (some false), [], (some [.dead]), none, false⟩ := rfl
theorem TryT_61 : TryT 61 = ⟨.other, (some 1), (some 8), (some false), [], (some [.dead]), none, false⟩ := rfl
theorem TryT_62 : TryT 62 = ⟨.other, (some 1), (some 8), (some false), [], (some [.dead]), none, false⟩ := rfl
theorem TryT_63 : TryT 63 = ⟨.other, (some 1), (some 8), (some false), [], (some [.dead]), none, false⟩ := rfl
theorem TryT_64 : TryT 64 = ⟨.agg, (some 4), (some 40), (some true), [(0, 17), (1, 17), (2, 17), (3, 9)], (some [.nilp, .nilp, .nilp, (.str [])]), none, true⟩ := rfl
theorem TryT_65 : TryT 65 = ⟨.agg, (some 4), (some 40), (some true), [(0, 17), (1, 17), (2, 17), (3, 9)], (some [.nilp, .nilp, .nilp, (.str [])]), none, true⟩ := rfl
theorem TryT_66 : TryT 66 = ⟨.other, (some 0), (some 0), (some true), [], (some []), none, false⟩ := rfl
theorem TryT_67 : TryT 67 = ⟨.agg, (some 0), (some 0), (some true), [(0, 66)], (some []), none, true⟩ := rfl
theorem TryT_68 : TryT 68 = ⟨.agg, (some 0), (some 0), (some true), [(0, 66)], (some []), none, true⟩ := rfl
theorem TryT_69 : TryT 69 = ⟨.other, (some 1), (some 8), (some false), [], (some [.dead]), none, false⟩ := rfl
theorem TryT_70 : TryT 70 = ⟨(.int .u8), (some 1), (some 1), (some false), [], (some [(.int .u8 0)]), none, false⟩ := rfl
theorem TryT_71 : TryT 71 = ⟨(.int .u8), (some 1), (some 1), (some false), [], (some [(.int .u8 0)]), none, false⟩ := rfl
theorem TryT_72 : TryT 72 = ⟨.other, (some 1), (some 8), (some false), [], (some [.dead]), none, false⟩ := rfl
theorem TryT_73 : TryT 73 = ⟨.other, (some 1), (some 8), (some false), [], (some [.nilp]), none, false⟩ := rfl
theorem TryT_74 : TryT 74 = ⟨(.int .i32), (some 1), (some 4), (some false), [], (some [(.int .i32 0)]), none, false⟩ := rfl
theorem TryT_75 : TryT 75 = ⟨(.int .i32), (some 1), (some 4), (some false), [], (some [(.int .i32 0)]), none, false⟩ := rfl
theorem TryT_76 : TryT 76 = ⟨.agg, (some 11), (some 48), (some true), [(0, 12), (1, 12), (2, 34), (3, 70), (4, 5), (5, 5), (6, 71), (7, 72), (8, 73), (9, 74), (10, 75)], (some [(.int .u64 0), (.int .u64 0), (.int .u32 0), (.int .u8 0), (.int .u8 0), (.int .u8 0), (.int .u8 0), .dead, .nilp, (.int .i32 0), (.int .i32 0)]), none, true⟩ := rfl
theorem TryT_77 : TryT 77 = ⟨.agg, (some 11), (some 48), (some true), [(0, 12), (1, 12), (2, 34), (3, 70), (4, 5), (5, 5), (6, 71), (7, 72), (8, 73), (9, 74), (10, 75)], (some [(.int .u64 0), (.int .u64 0), (.int .u32 0), (.int .u8 0), (.int .u8 0), (.int .u8 0), (.int .u8 0), .dead, .nilp, (.int .i32 0), (.int .i32 0)]), none, true⟩ := rfl
theorem TryT_78 : TryT 78 = ⟨.other, (some 1), (some 8), (some false), [], (some [.nilp]), none, false⟩ := rfl
theorem TryT_eq : TryT = tiOf Try.prog := tiOf_table 79 (by kernel_rfl) (fun t h => by unfold TryT; rw [h])
end Go.Proofs.Ytigaffddnidkpaa
