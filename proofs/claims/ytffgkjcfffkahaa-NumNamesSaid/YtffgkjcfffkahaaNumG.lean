/-
  The contract of the law's 'alive': the chapter's first examples hold. No condition.
-/
import Derived.Test.YtffgkjcfffkahaaNumF
namespace Go.Proofs.Ytffgkjcfffkahaa
open Go.RowKit

theorem put_at (n : Nat) (size : Int) (xs : List UInt8) (k : Int) (hn : n < 18446744073709551616) (h : putOf n size = (xs, k)) (w : World) :
    Calls Try.prog 9 #[.int .u64 n, .int .i64 size] w (GivesBI w xs.length xs k) := by
  have := put_any n size w hn
  rw [h] at this
  exact this
theorem take_at (bs : List UInt8) (size : Int) (m : Nat) (xs : List UInt8) (k : Int) (h : takeOf bs size = (m, xs, k)) (hb : bs.length ≤ 1000000) (A : Option Addr) (n c lo : Nat) (w : World) (hr : Rd w lo 1 A n (bs.map bv)) (hnc : n ≤ c) :
    Calls Try.prog 17 #[.slice A n c, .int .i64 size] w (GivesNBI w m xs.length xs k) := by
  have hl : bs.length = n := by simpa using hr.1
  have := take_any A n c lo bs size w hr hnc (by omega)
  rw [h] at this
  exact this
theorem putPart_at (bs : List UInt8) (xs : List UInt8) (k : Int) (h : putPartOf bs = (xs, k)) (A : Option Addr) (n c lo : Nat) (w : World) (hr : Rd w lo 1 A n (bs.map bv)) :
    Calls Try.prog 11 #[.slice A n c] w (GivesBI w xs.length xs k) := by
  have := putPart_any A n c lo bs w hr
  rw [h] at this
  exact this
theorem takePart_at (bs : List UInt8) (xs ys : List UInt8) (k : Int) (h : takePartOf bs = (xs, ys, k)) (hb : bs.length ≤ 1000000) (A : Option Addr) (n c lo : Nat) (w : World) (hr : Rd w lo 1 A n (bs.map bv)) (hnc : n ≤ c) :
    Calls Try.prog 19 #[.slice A n c] w (GivesBBI w xs.length ys.length xs ys k) := by
  have hl : bs.length = n := by simpa using hr.1
  have := takePart_any A n c lo bs w hr hnc (by omega)
  rw [h] at this
  exact this
theorem Rd.bytes {w : World} (n : Nat) (cs : Array Value) (bs : List UInt8) (hl : bs.length = n) (e : (bs.map bv).toArray = cs) : Rd (w.alloc (.cells cs 5)) w.heap.size 1 (some ⟨w.heap.size, 0, none⟩) n (bs.map bv) := by
  subst e
  exact Rd.lit w _ n _ (by simpa using hl)

theorem below_eq {w w' : World} (h : w = w') : Below w.heap.size w w' := by subst h; exact Below.refl _ _
theorem below_al {w w' : World} {o : Obj} (h : Below (w.alloc o).heap.size (w.alloc o) w') : Below w.heap.size w w' :=
  ((Below.refl w.heap.size w).alloc (Nat.le_refl _) o).trans (h.mono (by simp))
theorem below_step {w0 w1 w2 : World} (h : Below w0.heap.size w0 w1) (k : Below w1.heap.size w1 w2) : Below w0.heap.size w0 w2 := h.trans (k.mono h.size)

set_option maxHeartbeats 1000000 in
theorem alive_any (w : World) : Calls Try.prog 21 #[] w fun e w' => e = .returned (.bool true) ∧ Below w.heap.size w w' := by
  have P : ∀ W, Calls Try.prog 9 #[.int .u64 258, .int .i64 2] W (GivesBI W 2 [1, 2] 0) := fun W => put_at 258 2 [1, 2] 0 (by decide) (by decide) W
  have T : ∀ A n c lo W, Rd W lo 1 A n ([1, 2, 3].map bv) → n ≤ c → Calls Try.prog 17 #[.slice A n c, .int .i64 2] W (GivesNBI W 258 1 [3] 0) := fun A n c lo W h hc => take_at [1, 2, 3] 2 258 [3] 0 (by decide) (by decide) A n c lo W h hc
  have HP := hid P
  have HT := hid T
  clear P T
  go_enter Try.func21, Try.ntmps21
  go_wp2_with fail
  (with_reducible refine (HP.out w).mono ?_); rintro e w1 ⟨D, d, rfl, ho1, hb1⟩
  go_wp2_with fail
  (with_reducible refine (HT.out _ 3 3 w1.heap.size _ (Rd.bytes 3 #[.int .u8 1, .int .u8 2, .int .u8 3] [1, 2, 3] rfl rfl) (by omega)).mono ?_); rintro e w2 ⟨E, e1, rfl, ho2, hb2⟩
  have hb12 := below_al hb2
  go_wp2_with fail
  (with_reducible refine (same_yes d 2 ((ho1.below hb12).alloc _).rd (Rd.bytes 2 #[.int .u8 1, .int .u8 2] [1, 2] rfl rfl)).mono ?_); rintro e w3 ⟨rfl, hw3⟩
  have hb23 := below_al (below_eq hw3)
  clear hw3
  go_wp2_with fail
  (with_reducible refine (same_yes e1 1 (((ho2.below hb23).alloc _)).rd (Rd.bytes 1 #[.int .u8 3] [3] rfl rfl)).mono ?_); rintro e w4 ⟨rfl, hw4⟩
  have hb34 := below_al (below_eq hw4)
  clear hw4
  go_wp2_with fail
  go_ret
  exact ⟨rfl, below_step hb1 (below_step hb12 (below_step hb23 hb34))⟩
end Go.Proofs.Ytffgkjcfffkahaa
