import Derived.Test.YtkjjcpgickjidaaFm21
/-! Rules by which the machine is reckoned step by step: what is said next is not looked at before its turn. -/
namespace Go.Fm
set_option linter.unusedVariables false
@[congr] theorem kI_congr {x y : SV} {K : IntKind → Int → Prop} (h : x = y) : SV.kI x K = SV.kI y K := by rw [h]
@[congr] theorem kB_congr {x y : SV} {K : Bool → Prop} (h : x = y) : SV.kB x K = SV.kB y K := by rw [h]
@[congr] theorem kS_congr {x y : SV} {K : List UInt8 → Prop} (h : x = y) : SV.kS x K = SV.kS y K := by rw [h]
@[congr] theorem kA_congr {x y : SV} {K : List CV → Prop} (h : x = y) : SV.kA x K = SV.kA y K := by rw [h]
@[congr] theorem kT_congr {x y : SV} {K : List PV → Prop} (h : x = y) : SV.kT x K = SV.kT y K := by rw [h]
@[congr] theorem kC_congr {x y : SV} {K : List CV → Prop} (h : x = y) : SV.kC x K = SV.kC y K := by rw [h]
@[congr] theorem kO_congr {α : Type} {x y : Option α} {K : α → Prop} (h : x = y) : kO x K = kO y K := by rw [h]
@[congr] theorem kLive_congr {x y : HS} {K : Blk → Prop} (h : x = y) : kLive x K = kLive y K := by rw [h]
@[congr] theorem kPtr_congr {x y : SV} {K : Nat → Nat → Prop} {K2 : List CV → Prop} (h : x = y) : SV.kPtr x K K2 = SV.kPtr y K K2 := by rw [h]
@[congr] theorem kSl_congr {x y : SV} {K : Nat → Nat → Nat → Prop} {K2 : Nat → Nat → List CV → Prop} {K3 : Prop} (h : x = y) : SV.kSl x K K2 K3 = SV.kSl y K K2 K3 := by rw [h]
@[congr] theorem kLen_congr {φ ψ : St} {x y : SV} {K : List Nat → Nat → Prop} (h : x = y) (h2 : φ = ψ) : St.kLen φ x K = St.kLen ψ y K := by rw [h, h2]
@[congr] theorem bd_congr {φ ψ : St} {x y : Option Operand} {d e : Nat} {K : Int → Prop} (h1 : φ = ψ) (h : x = y) (h2 : d = e) : St.bd φ x d K = St.bd ψ y e K := by rw [h1, h, h2]
@[congr] theorem cells_congr {φ ψ : St} {n m : Nat} {x y : SV} {K : List Nat → Nat → List CV → Prop} (h1 : φ = ψ) (h2 : n = m) (h : x = y) : St.cells φ n x K = St.cells ψ m y K := by rw [h1, h, h2]
@[congr] theorem kSeq_congr {e f : Ex} {X Y : Unit → Prop} (h : e = f) : kSeq e X Y = kSeq f X Y := by rw [h]
@[congr] theorem binI_congr {op : BinOp} {k : IntKind} {a a' b b' : Int} {K : CV → Prop} (h1 : a = a') (h2 : b = b') : binI op k a b K = binI op k a' b' K := by rw [h1, h2]
@[congr] theorem shI_congr {op : BinOp} {k : IntKind} {a a' b b' : Int} {K : CV → Prop} (h1 : a = a') (h2 : b = b') : shI op k a b K = shI op k a' b' K := by rw [h1, h2]
@[congr] theorem kBinT_congr {T : TypeId → TyI} {op : BinOp} {t : TypeId} {x x' y y' : SV} {K : CV → Prop} (h1 : x = x') (h2 : y = y') : kBinT T op t x y K = kBinT T op t x' y' K := by rw [h1, h2]
@[congr] theorem kUn_congr {u : UnOp} {x x' : SV} {K : CV → Prop} (h1 : x = x') : kUn u x K = kUn u x' K := by rw [h1]
end Go.Fm
