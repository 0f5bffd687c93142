/-
  Contracts of the turns of a word. Turns by 1 to 31.
-/
import Derived.Test.YtheljogmnalbmaaDoorWord
import Derived.Deep.QuietTactic
import Derived.BigQuiet
namespace Go.Proofs.YtheljogmnalbmaaDoor

theorem w_shl' (a : UInt32) (n : Nat) : (a.toNat : Int) * 2 ^ n % 4294967296 = ((wshl a n).toNat : Int) := by
  rw [← w_shl]
  simp [IntKind.wrap, IntKind.signed, IntKind.bits]
theorem turn_any (a : UInt32) (n : Nat) (h0 : 1 ≤ n) (h1 : n ≤ 31) (w : World) : Calls Tryd.prog 61 #[.int .u32 (a.toNat : Int), .int .u32 (n : Int)] w fun e w' => e = .returned (.int .u32 ((wrot a n).toNat : Int)) ∧ w' = w := by
  go_enter Tryd.func61, Tryd.ntmps61
  go_wp2_with fail
  go_ret
  rw [w_shr, w_shl', w_or]
  exact ⟨rfl, rfl⟩
theorem neg_and : ∀ n : Fin 32, 1 ≤ n.1 → bits .and .u64 (IntKind.u64.wrap (-(n.1 : Int))) 31 = 32 - (n.1 : Int) := by decide +kernel
theorem rotl_any (a : UInt32) (n : Nat) (h0 : 1 ≤ n) (h1 : n ≤ 31) (w : World) : Calls Tryd.prog 55 #[.int .u32 (a.toNat : Int), .int .i64 (-(n : Int))] w fun e w' => e = .returned (.int .u32 ((wrot a n).toNat : Int)) ∧ w' = w := by
  have hk := neg_and ⟨n, by omega⟩ h0
  simp only at hk
  have e1 : (32 - (n : Int)).toNat = 32 - n := by omega
  have e2 : (32 : Int) - (32 - (n : Int)) = n := by omega
  go_enter Tryd.func55, Tryd.ntmps55
  go_wp2_with fail
  go_ret
  rw [w_shr, w_shl', w_or]
  have : wor (wshl a (32 - n)) (wshr a n) = wrot a n := UInt32.or_comm _ _
  rw [this]
  exact ⟨rfl, rfl⟩
theorem turned_any (a : UInt32) (n : Nat) (h0 : 1 ≤ n) (h1 : n ≤ 31) (w : World) : Calls Tryd.prog 52 #[.int .u32 (a.toNat : Int), .int .i64 (n : Int)] w fun e w' => e = .returned (.int .u32 ((wrot a n).toNat : Int)) ∧ w' = w := by
  go_enter Tryd.func52, Tryd.ntmps52
  go_wp2_with ((with_reducible refine (rotl_any a n h0 h1 w).mono ?_); rintro e w1 ⟨rfl, rfl⟩)
  go_ret
  exact ⟨rfl, rfl⟩
theorem turned_int (a : UInt32) (k : Int) (h0 : 1 ≤ k) (h1 : k ≤ 31) (w : World) : Calls Tryd.prog 52 #[.int .u32 (a.toNat : Int), .int .i64 k] w fun e w' => e = .returned (.int .u32 ((wrot a k.toNat).toNat : Int)) ∧ w' = w := by
  have h := turned_any a k.toNat (by omega) (by omega) w
  have e : ((k.toNat : Nat) : Int) = k := by omega
  rw [e] at h
  exact h
theorem turned_w (a : UInt32) (k : Int) (h0 : 1 ≤ k) (h1 : k ≤ 31) (w : World) : Calls Tryd.prog 52 #[.int .u32 (a.toNat : Int), .int .i64 k] w fun e w' => e = .returned (.int .u32 ((wrot a k.toNat).toNat : Int)) ∧ w = w' :=
  (turned_int a k h0 h1 w).mono fun _ _ h => ⟨h.1, h.2.symm⟩
end Go.Proofs.YtheljogmnalbmaaDoor
