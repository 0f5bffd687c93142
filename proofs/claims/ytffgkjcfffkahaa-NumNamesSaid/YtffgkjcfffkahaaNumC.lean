/-
  Contracts of slices.Clone at bytes, of num.PutPart, and of the reference's Put and PutPart. No condition beyond those each theorem names.
-/
import Derived.Test.YtffgkjcfffkahaaNumB
namespace Go.Proofs.Ytffgkjcfffkahaa
open Go.RowKit

theorem Rd.none_ {w : World} {lo n : Nat} {bs : List UInt8} (hr : Rd w lo 1 none n (bs.map bv)) : n = 0 ∧ bs = [] := by
  rcases Nat.eq_zero_or_pos n with h | h
  · subst h
    exact ⟨rfl, List.eq_nil_of_length_eq_zero (by simpa using hr.1)⟩
  · obtain ⟨b, o, e, _⟩ := hr.2 (by omega)
    cases e

set_option maxHeartbeats 400000 in
theorem clone_any (A : Option Addr) (n c lo : Nat) (bs : List UInt8) (w : World) (hr : Rd w lo 1 A n (bs.map bv)) (hn : n ≤ 1000000) :
    Calls Try.prog 23 #[.slice A n c] w (GivesB w n bs) := by
  obtain ⟨i0, hi0, hz0, hz1, hz2⟩ := info_parts u8_info
  have he := Lib.run_eql_slice_nil (P := Try.prog) w 23 5 A n c 0 0 Try.underlying23
  cases A with
  | none =>
    obtain ⟨rfl, rfl⟩ := hr.none_
    go_enter Try.func23, Try.ntmps23
    go_wp2
    go_ret
    exact gives_b (Own.nil _ _ _ _ _) (Below.refl _ _)
  | some a =>
    go_enter Try.func23, Try.ntmps23
    go_wp2_with (at_builtin; refine wpList_app _ rfl _ _ _ rfl w.heap.size 5 i0 _ 1 1 Try.underlying23 hi0 hz0 hz1 hz2 rfl (by omega) _ 0 0 [] rfl (Own.nil _ _ _ _ _) (some a) n c lo (bs.map bv) rfl (hr.alloc _) (bv_one bs) (by simp only [maxLen]; omega) (by omega) (by simp) ?_; intro D' c' w1 hown hg hat)
    go_ret
    simp only [Nat.zero_add, List.nil_append] at hown
    exact gives_b hown (((Below.refl _ _).alloc (Nat.le_refl _) _).grown hg (by simp) (by simp [rowOf]))

set_option maxHeartbeats 400000 in
theorem refPut_arg (n : Nat) (size : Int) (w : World) (hs : size < 1 ∨ 8 < size) :
    Calls Try.prog 10 #[.int .u64 n, .int .i64 size] w fun e w' => e = .returned (.tuple #[.slice none 0 0, .int .i64 2]) ∧ w = w' := by
  rcases hs with h | h
  · go_enter Try.func10, Try.ntmps10
    go_wp2
    go_ret2
    exact ⟨rfl, rfl⟩
  · have h1 : ¬ size < 1 := by omega
    go_enter Try.func10, Try.ntmps10
    go_wp2
    go_ret2
    exact ⟨rfl, rfl⟩

theorem no_div {n s : Nat} (h : n < 256 ^ s) : (n / 256 ^ s == 0) = true := by rw [Nat.div_eq_of_lt h]; rfl
theorem yes_div {n s : Nat} (h : 256 ^ s ≤ n) : (n / 256 ^ s == 0) = false := by
  rw [beq_eq_false_iff_ne]
  have := Nat.div_pos h (Nat.pow_pos (by omega) : 0 < 256 ^ s)
  omega

set_option maxHeartbeats 400000 in
theorem refPut_ok (n s : Nat) (w : World) (hs : 1 ≤ s) (hs8 : s ≤ 8) (hn : n < 18446744073709551616) (h : n < 256 ^ s) :
    Calls Try.prog 10 #[.int .u64 n, .int .i64 (s : Int)] w (GivesBI w s (be n s) 0) := by
  have hd := digits_any n s w hs8 hn
  rw [no_div h] at hd
  have h1 : ¬ (s : Int) < 1 := by omega
  have h2 : ¬ (8 : Int) < s := by omega
  have H := hid hd
  clear hd
  go_enter Try.func10, Try.ntmps10
  go_wp2_with (refine H.out.mono ?_; rintro e w1 ⟨A, c, rfl, ho, hb⟩)
  go_ret2
  exact gives_bi ho hb

set_option maxHeartbeats 400000 in
theorem refPut_over (n s : Nat) (w : World) (hs : 1 ≤ s) (hs8 : s ≤ 8) (hn : n < 18446744073709551616) (h : 256 ^ s ≤ n) :
    Calls Try.prog 10 #[.int .u64 n, .int .i64 (s : Int)] w fun e w' => e = .returned (.tuple #[.slice none 0 0, .int .i64 4]) ∧ Below w.heap.size w w' := by
  have hd := digits_any n s w hs8 hn
  rw [yes_div h] at hd
  have h1 : ¬ (s : Int) < 1 := by omega
  have h2 : ¬ (8 : Int) < s := by omega
  have H := hid hd
  clear hd
  go_enter Try.func10, Try.ntmps10
  go_wp2_with (refine H.out.mono ?_; rintro e w1 ⟨A, c, rfl, ho, hb⟩)
  go_ret2
  exact ⟨rfl, hb⟩

set_option maxHeartbeats 400000 in
theorem putPart_over (A : Option Addr) (n c : Nat) (w : World) (hn : 4096 < n) :
    Calls Try.prog 11 #[.slice A n c] w fun e w' => e = .returned (.tuple #[.slice none 0 0, .int .i64 4]) ∧ w = w' := by
  go_enter Try.func11, Try.ntmps11
  go_wp2
  go_ret2
  exact ⟨rfl, rfl⟩
set_option maxHeartbeats 400000 in
theorem refPutPart_over (A : Option Addr) (n c : Nat) (w : World) (hn : 4096 < n) :
    Calls Try.prog 12 #[.slice A n c] w fun e w' => e = .returned (.tuple #[.slice none 0 0, .int .i64 4]) ∧ w = w' := by
  go_enter Try.func12, Try.ntmps12
  go_wp2
  go_ret2
  exact ⟨rfl, rfl⟩

set_option maxHeartbeats 400000 in
theorem putPart_ok (A : Option Addr) (n c lo : Nat) (bs : List UInt8) (w : World) (hr : Rd w lo 1 A n (bs.map bv)) (hn : n ≤ 4096) :
    Calls Try.prog 11 #[.slice A n c] w (GivesBI w (2 + n) (be n 2 ++ bs) 0) := by
  obtain ⟨i0, hi0, hz0, hz1, hz2⟩ := info_parts u8_info
  have H := hid (put_ok n 2 w (by omega) (by omega) (by omega))
  go_enter Try.func11, Try.ntmps11
  go_wp2_with (first
    | (refine H.out.mono ?_; rintro e w1 ⟨D, d, rfl, ho, hb⟩)
    | (at_builtin; refine wpList_app _ rfl _ _ _ rfl w.heap.size 5 i0 _ 1 1 Try.underlying23 hi0 hz0 hz1 hz2 rfl (by omega) D 2 d _ rfl ho A n c lo (bs.map bv) rfl (hr.below hb) (bv_one bs) (by simp only [maxLen]; omega) (by omega) hb.size ?_; intro D' c' w2 hown hg hat))
  go_ret2
  exact gives_bi (by rw [List.map_append]; exact hown) (ho.grows hg hb hb.size)

set_option maxHeartbeats 400000 in
theorem refPutPart_ok (A : Option Addr) (n c lo : Nat) (bs : List UInt8) (w : World) (hr : Rd w lo 1 A n (bs.map bv)) (hn : n ≤ 4096) :
    Calls Try.prog 12 #[.slice A n c] w (GivesBI w (2 + n) (be n 2 ++ bs) 0) := by
  obtain ⟨i0, hi0, hz0, hz1, hz2⟩ := info_parts u8_info
  have H := hid (digits_any n 2 w (by omega) (by omega))
  go_enter Try.func12, Try.ntmps12
  go_wp2_with (first
    | (refine H.out.mono ?_; rintro e w1 ⟨D, d, rfl, ho, hb⟩)
    | (at_builtin; refine wpList_app _ rfl _ _ _ rfl w.heap.size 5 i0 _ 1 1 Try.underlying23 hi0 hz0 hz1 hz2 rfl (by omega) D 2 d _ rfl ho A n c lo (bs.map bv) rfl (hr.below hb) (bv_one bs) (by simp only [maxLen]; omega) (by omega) hb.size ?_; intro D' c' w2 hown hg hat))
  go_ret2
  exact gives_bi (by rw [List.map_append]; exact hown) (ho.grows hg hb hb.size)

/-! ### numbers out of bytes -/
/-- The number that bytes are. -/
def val (bs : List UInt8) : Nat := bs.foldl (fun a b => 256 * a + b.toNat) 0
theorem val_snoc (bs : List UInt8) (b : UInt8) : val (bs ++ [b]) = 256 * val bs + b.toNat := by simp [val]
theorem val_take (bs : List UInt8) (k : Nat) (b : UInt8) (h : bs[k]? = some b) : val (bs.take (k + 1)) = 256 * val (bs.take k) + b.toNat := by
  rw [List.take_add_one, h]
  exact val_snoc _ _
theorem val_lt (bs : List UInt8) : val bs < 256 ^ bs.length := by
  suffices ∀ m (l : List UInt8), l.length = m → val l < 256 ^ m from this _ _ rfl
  intro m
  induction m with
  | zero => intro l h; rw [List.eq_nil_of_length_eq_zero h]; simp [val]
  | succ m ih =>
    intro l h
    rcases List.eq_nil_or_concat l with rfl | ⟨l', b, rfl⟩
    · simp at h
    · rw [List.concat_eq_append, val_snoc]
      have := ih l' (by simpa using h)
      have := b.toNat_lt
      rw [Nat.pow_succ]
      omega
theorem val_lt8 (bs : List UInt8) (h : bs.length ≤ 8) : val bs < 18446744073709551616 :=
  Nat.lt_of_lt_of_le (val_lt bs) (Nat.le_trans (Nat.pow_le_pow_right (by omega) h) (by decide))
theorem Rd.byte {w : World} {lo n k : Nat} {A : Option Addr} {bs : List UInt8} (hr : Rd w lo 1 A n (bs.map bv)) (hk : k < n) :
    ∃ b o x, A = some ⟨b, o, none⟩ ∧ bs[k]? = some x ∧ w.cell? ⟨b, o + k, none⟩ = some (.int .u8 (x.toNat : Int)) := by
  obtain ⟨b, o, u, e, _, hx, hc⟩ := hr.at_ hk
  rw [List.getElem?_map] at hx
  cases h : bs[k]? with
  | none => simp [h] at hx
  | some x =>
    simp [h] at hx
    subst hx
    exact ⟨b, o, x, e, rfl, hc⟩

set_option maxHeartbeats 400000 in
theorem number_any (A : Option Addr) (n c lo : Nat) (bs : List UInt8) (w : World) (hr : Rd w lo 1 A n (bs.map bv)) (hn : n ≤ 8) :
    Calls Try.prog 24 #[.slice A n c] w fun e w' => e = .returned (.int .u64 (val bs : Nat)) ∧ w = w' := by
  have hl : bs.length = n := by simpa using hr.1
  go_enter Try.func24, Try.ntmps24
  go_wp2
  go_loop [3, 4] (fun v i => ∃ k : Nat, k ≤ n ∧ i = .int .i64 k ∧ v = .int .u64 (val (bs.take k) : Nat)) (fun _ i => n - (intOf i).toNat)
  case atStart => exact ⟨0, Nat.zero_le _, rfl, by simp [val]⟩
  case round =>
    obtain ⟨k, hk, rfl, rfl⟩ := hrel
    by_cases hlt : k < n
    · obtain ⟨b, o, x, rfl, hx, hc⟩ := hr.byte hlt
      have hv := val_take bs k x hx
      have h8 := val_lt8 (bs.take (k + 1)) (by rw [List.length_take]; omega)
      have hxl := x.toNat_lt
      generalize hq : val (bs.take k) = q at *
      generalize hq' : val (bs.take (k + 1)) = q' at *
      have HQ : Hid (q' = 256 * q + x.toNat) := hv
      have hb1 : 256 * q + x.toNat < 18446744073709551616 := by omega
      clear hv hq
      have HQ2 : Hid (val (bs.take (k + 1)) = q') := hq'
      clear hq' hx
      go_wp2
      go_round
      case rel => exact ⟨k + 1, by omega, by go_num, by rw [HQ2.out, HQ.out]; congr 1⟩
      case measure => simp [intOf]; omega
    · have : k = n := by omega
      subst this
      have e : bs.take k = bs := List.take_of_length_le (by omega)
      rw [e]
      go_wp2
      go_ret
      exact ⟨rfl, rfl⟩

set_option maxHeartbeats 400000 in
theorem take_arg (A : Option Addr) (n c : Nat) (size : Int) (w : World) (hs : size < 1 ∨ 8 < size) :
    Calls Try.prog 17 #[.slice A n c, .int .i64 size] w fun e w' => e = .returned (.tuple #[.int .u64 0, .slice none 0 0, .int .i64 2]) ∧ w = w' := by
  rcases hs with h | h
  · go_enter Try.func17, Try.ntmps17
    go_wp2
    go_ret3
    exact ⟨rfl, rfl⟩
  · have h1 : ¬ size < 1 := by omega
    go_enter Try.func17, Try.ntmps17
    go_wp2
    go_ret3
    exact ⟨rfl, rfl⟩
set_option maxHeartbeats 400000 in
theorem take_short (A : Option Addr) (n c s : Nat) (w : World) (hs : 1 ≤ s) (hs8 : s ≤ 8) (hn : n < s) :
    Calls Try.prog 17 #[.slice A n c, .int .i64 s] w fun e w' => e = .returned (.tuple #[.int .u64 0, .slice none 0 0, .int .i64 10]) ∧ w = w' := by
  have h1 : ¬ (s : Int) < 1 := by omega
  have h2 : ¬ (8 : Int) < s := by omega
  go_enter Try.func17, Try.ntmps17
  go_wp2
  go_ret3
  exact ⟨rfl, rfl⟩

/-- Three results: a number, a slice of bytes in new memory, a number. -/
def GivesNBI (w : World) (m : Nat) (n : Nat) (bs : List UInt8) (k : Int) (e : Ending) (w' : World) : Prop :=
  ∃ A c, e = .returned (.tuple #[.int .u64 m, .slice A n c, .int .i64 k]) ∧ Own w' w.heap.size 5 1 A n c (bs.map bv) ∧ Below w.heap.size w w'
theorem gives_nbi {w w' : World} {A : Option Addr} {n c m : Nat} {bs : List UInt8} {k : Int} (ho : Own w' w.heap.size 5 1 A n c (bs.map bv)) (hb : Below w.heap.size w w') : GivesNBI w m n bs k (.returned (.tuple #[.int .u64 m, .slice A n c, .int .i64 k])) w' := ⟨A, c, rfl, ho, hb⟩

set_option maxHeartbeats 400000 in
theorem take_ok (A : Option Addr) (n c s lo : Nat) (bs : List UInt8) (w : World) (hr : Rd w lo 1 A n (bs.map bv)) (hs : 1 ≤ s) (hs8 : s ≤ 8) (hn : s ≤ n) (hnc : n ≤ c) (hbig : n ≤ 1000000) :
    Calls Try.prog 17 #[.slice A n c, .int .i64 s] w (GivesNBI w (val (bs.take s)) (n - s) (bs.drop s) 0) := by
  have hl : bs.length = n := by simpa using hr.1
  have h1 : ¬ (s : Int) < 1 := by omega
  have h2 : ¬ (8 : Int) < s := by omega
  go_enter Try.func17, Try.ntmps17
  go_wp2
  go_loop [4, 8, 26] (fun v _ i => ∃ k : Nat, k ≤ s ∧ i = .int .i64 k ∧ v = .int .u64 (val (bs.take k) : Nat)) (fun _ _ i => s - (intOf i).toNat)
  case atStart => exact ⟨0, Nat.zero_le _, rfl, by simp [val]⟩
  case round =>
    obtain ⟨k, hk, rfl, rfl⟩ := hrel
    by_cases hlt : k < s
    · obtain ⟨b, o, x, rfl, hx, hc⟩ := hr.byte (k := k) (by omega)
      have hv := val_take bs k x hx
      have h8 := val_lt8 (bs.take (k + 1)) (by rw [List.length_take]; omega)
      have hxl := x.toNat_lt
      generalize hq : val (bs.take k) = q at *
      generalize hq' : val (bs.take (k + 1)) = q' at *
      have HQ : Hid (q' = 256 * q + x.toNat) := hv
      have hb1 : 256 * q + x.toNat < 18446744073709551616 := by omega
      clear hv hq
      have HQ2 : Hid (val (bs.take (k + 1)) = q') := hq'
      clear hq' hx
      go_wp2
      go_round
      case rel => exact ⟨k + 1, by omega, by go_num, by rw [HQ2.out, HQ.out, or_byte q _ hxl hb1]⟩
      case measure => simp [intOf]; omega
    · have : k = s := by omega
      subst this
      go_wp2_with (first
        | ((with_reducible refine (clone_any (A.map fun x => x.add k) _ _ lo (bs.drop k) w (hr.dropB hn) (by omega)).mono ?_); rintro e w1 ⟨D, d, rfl, ho, hb⟩)
        | ((with_reducible refine (clone_any A _ _ lo (bs.drop k) w (hr.dropE hn hnc (by assumption)) (by omega)).mono ?_); rintro e w1 ⟨D, d, rfl, ho, hb⟩))
      all_goals
        go_ret3
        exact gives_nbi ho hb
end Go.Proofs.Ytffgkjcfffkahaa
