/-
  Contract of the reference's padded.
-/
import Derived.Test.YtheljogmnalbmaaDoorShaL
namespace Go.Proofs.YtheljogmnalbmaaDoor
open Go.RowKit

/-- The answer: a slice of bytes in new memory. -/
def GivesO (w : World) (bs : List UInt8) (e : Ending) (w' : World) : Prop :=
  ∃ A n c, e = .returned (.slice A n c) ∧ OwnO w' w.heap.size A n c bs ∧ Below w.heap.size w w'
theorem gives_o {w w' : World} {A : Option Addr} {n c : Nat} {bs : List UInt8} (h : OwnO w' w.heap.size A n c bs) (hb : Below w.heap.size w w') : GivesO w bs (.returned (.slice A n c)) w' := ⟨A, n, c, rfl, h, hb⟩

/-- The tail while it is written. -/
def tailL (N j : Nat) : List UInt8 := List.replicate (8 - j) 0 ++ (lenB N 8).drop (8 - j)
theorem tailL_len (N j : Nat) (h : j ≤ 8) : (tailL N j).length = 8 := by
  rw [tailL, List.length_append, List.length_replicate, List.length_drop, lenB_len]
  omega
theorem tailL_zero (N : Nat) : tailL N 0 = List.replicate 8 0 := by simp [tailL, List.drop_of_length_le, lenB_len]
theorem tailL_full (N : Nat) : tailL N 8 = lenB N 8 := rfl
theorem lt8' {i : Nat} (h : i < 8) : i = 0 ∨ i = 1 ∨ i = 2 ∨ i = 3 ∨ i = 4 ∨ i = 5 ∨ i = 6 ∨ i = 7 := by omega
theorem lenB8 (N : Nat) : lenB N 8 = [lenAt N 0, lenAt N 1, lenAt N 2, lenAt N 3, lenAt N 4, lenAt N 5, lenAt N 6, lenAt N 7] := rfl
theorem tailL_set (N j : Nat) (h : j < 8) : (((tailL N j).map bv).toArray).setIfInBounds (7 - j) (bv (lenAt N (7 - j))) = ((tailL N (j + 1)).map bv).toArray := by
  unfold tailL
  rw [lenB8]
  rcases lt8' h with rfl | rfl | rfl | rfl | rfl | rfl | rfl | rfl <;> rfl
theorem tailL_next (N j : Nat) (h : j < 8) : (((tailL N j).map bv).toArray)[7 - j]? = some (.int .u8 0) := by
  unfold tailL
  rw [lenB8]
  rcases lt8' h with rfl | rfl | rfl | rfl | rfl | rfl | rfl | rfl <;> rfl
theorem len_val (N j : Nat) (h : j < 8) : Value.int .u8 (((8 * N / 256 ^ j : Nat) : Int) % 256) = bv (lenAt N (7 - j)) := by
  unfold bv lenAt
  rw [UInt8.toNat_ofNat', show 56 - 8 * (7 - j) = 8 * j by omega, Nat.pow_mul]
  rfl
theorem div_256 (x j : Nat) : x / 256 ^ j / 256 = x / 256 ^ (j + 1) := by rw [Nat.div_div_eq_div_mul, Nat.pow_succ]
def zeroT : Array Value := ((List.replicate 8 (0 : UInt8)).map bv).toArray
theorem zeroT_run (w : World) : (zeroValue 91).run Tryd.prog w = .ok (.agg zeroT) w := by kernel_rfl

set_option maxRecDepth 100000 in
set_option maxHeartbeats 4000000 in
theorem padded_any (A : Option Addr) (n c lo : Nat) (M : List UInt8) (N : Nat) (hnN : n = N) (w : World) (hr : Rd w lo 1 A n (M.map bv)) (hn : n ≤ 100000) :
    Calls Tryd.prog 56 #[.slice A n c] w (GivesO w (pad M)) := by
  obtain ⟨i0, hi0, hz0, hz1, hz2⟩ := info_parts byte_info
  have hN : M.length = N := by have := hr.1; simp at this; omega
  subst hnN
  have HN := hid hN
  clear hN
  have tok1 : True := trivial
  go_enter Tryd.func56, Tryd.ntmps56
  go_wp2_with (first
    | (clear tok1; refine wpList_appO _ rfl _ _ 24 rfl w.heap.size 5 i0 _ Tryd.underlying24 hi0 hz0 hz1 hz2 rfl none 0 0 [] rfl (OwnO.nil _ _ _) A n c lo M rfl hr (by simp only [maxLen]; omega) (by omega) (Nat.le_refl _) ?_; intro D1 c1 w1 hO1 hg1; simp only [Nat.zero_add, List.nil_append] at hO1; have hb1 : Below w.heap.size w w1 := (Below.refl _ _).grown hg1 (Nat.le_refl _) (by simp [rowOf]))
    | (refine wpList_appO _ rfl _ _ 24 rfl w.heap.size 5 i0 _ Tryd.underlying24 hi0 hz0 hz1 hz2 rfl D1 n c1 M rfl (hO1.alloc _) _ 1 1 0 [128] rfl (Rd.one _ _ _ 128 rfl) (by simp only [maxLen]; omega) (by omega) (by have := hb1.size; simp; omega) ?_; intro D2 c2 w2 hO2 hg2))
  have hb2 : Below w.heap.size w w2 := (hb1.alloc hb1.size _).grown hg2 (by have := hb1.size; simp; omega) hO1.row
  have hO2' : OwnO w2 w.heap.size D2 (n + 1) c2 (padQ M 0) := by simpa [padQ] using hO2
  clear hO1 hg1 hb1 hO2 hg2
  have hzl := zerosN_lt n
  obtain ⟨Z, hZ⟩ : ∃ Z, zerosN n = Z := ⟨_, rfl⟩
  rw [hZ] at hzl
  have HZ := hid hZ
  clear hZ
  go_loopw [3] (fun v wx => ∃ (q : Nat) (A : Option Addr) (m c : Nat), q ≤ Z ∧ v = .slice A m c ∧ OwnO wx w.heap.size A m c (padQ M q) ∧ Below w.heap.size w wx) (fun v _ => match v with | .slice _ n _ => 1000000 - n | _ => 0)
  case atStart => exact ⟨0, _, _, _, Nat.zero_le _, rfl, hO2', hb2⟩
  case round =>
    clear hO2' hb2
    obtain ⟨q, B, m, d, hq, rfl, hO, hb⟩ := hrel
    have hnl := hO.1
    rw [padQ_len, HN.out] at hnl
    have hm : m ≤ 100100 := by omega
    have hbs := hb.size
    have hmod : m % 64 = 56 ↔ q = Z := by
      have h1 := zerosN_mod n q (by rw [HZ.out]; exact hq)
      rw [HZ.out] at h1
      rw [← h1]
      omega
    by_cases hqz : q = Z
    · have hm1 := hmod.2 hqz
      have hne : ((m : Int) % 64 != 56) = false := by rw [bne_eq_false_iff_eq]; omega
      have hn1 : (n : Int) ≤ 100000 := by omega
      have HNL := hid hnl
      clear hnl hmod hm1
      subst hqz
      go_wp2_with (refine wpList_al rfl 91 rfl zeroT (zeroT_run _) ?_; intro w3 hT3 hb3 hz3)
      obtain ⟨wo, rfl⟩ : ∃ wo : World, wo = wr := ⟨_, rfl⟩
      have hT3' : Blk w3 wo.heap.size 91 ((tailL n 0).map bv).toArray := by rw [tailL_zero]; exact hT3
      have hbL : Below w.heap.size w w3 := hb.trans (hb3.mono hbs)
      have hb0 : Below wo.heap.size wo w3 := hb3
      clear hT3 hb3 hz3
      go_loopw [6, 4] (fun i v wx => ∃ j : Nat, j ≤ 8 ∧ i = .int .i64 (7 - (j : Int)) ∧ v = .int .u64 (8 * n / 256 ^ j : Nat) ∧ Blk wx wo.heap.size 91 ((tailL n j).map bv).toArray ∧ Below wo.heap.size w3 wx) (fun i _ _ => (intOf i + 1).toNat)
      case atStart => exact ⟨0, Nat.zero_le _, rfl, by simp, hT3', Below.refl _ _⟩
      case round =>
        clear hT3'
        obtain ⟨j, hj, rfl, rfl, hT, hbj⟩ := hrel
        by_cases hj8 : j < 8
        · have c1 := hT.cellv (tailL_next n j hj8)
          have f1 := hT.frozen (7 - j)
          have hset := hid (tailL_set n j hj8)
          have hval := hid (len_val n j hj8)
          have hdiv := hid (div_256 (8 * n) j)
          have hle : 8 * n / 256 ^ j ≤ 8 * n := Nat.div_le_self _ _
          generalize 8 * n / 256 ^ j = y at *
          have hy : (y : Int) ≤ 800000 := by omega
          have hy0 : (0 : Int) ≤ (y : Int) := by omega
          have hji : (7 - (j : Int)) = ((7 - j : Nat) : Int) := by omega
          rw [hji]
          have hjn : ((7 - j : Nat) : Int) < 8 := by omega
          have hjz : (0 : Int) ≤ ((7 - j : Nat) : Int) := by omega
          generalize h7 : 7 - j = r at *
          have H7 := hid h7
          have HJI := hid hji
          clear hle h7 hji
          go_wp2_with fail
          rw [hval.out]
          have g1 := hT.set_ r (bv (lenAt n r))
          rw [hset.out] at g1
          have e1 : (r : Int) - 1 = 7 - ((j + 1 : Nat) : Int) := by have := HJI.out; omega
          exact ⟨⟨j + 1, by omega, by rw [e1], by rw [← hdiv.out]; rfl, g1, hbj.setCell (Nat.le_refl _) _⟩, by simp only [intOf]; omega⟩
        · obtain rfl : j = 8 := by omega
          rw [tailL_full] at hT
          have hbw := hb0.trans hbj
          have hOr := hO.below hbw
          have hbb : Below w.heap.size w wr := hb.trans (hbw.mono hbs)
          have hrT : Rd wr 0 1 (some ⟨wo.heap.size, 0, none⟩) 8 ((lenB n 8).map bv) := ⟨by simp [lenB_len], fun _ => ⟨_, _, rfl, Nat.zero_le _, fun j hj => by rw [Nat.zero_add, hT.cell]; simp⟩⟩
          have hbbs := hbb.size
          rw [show (7 - ((8 : Nat) : Int)) = -1 from by decide]
          clear hO hb0 hbj hbw hT hb
          go_wp2_with (refine wpList_appO _ rfl _ _ 24 rfl w.heap.size 5 i0 _ Tryd.underlying24 hi0 hz0 hz1 hz2 rfl B m d _ rfl hOr _ 8 8 0 (lenB n 8) rfl hrT (by simp only [maxLen]; omega) (by omega) hbbs ?_; intro D' c' w4 hO4 hg4)
          go_ret
          have e2 : padQ M q ++ lenB n 8 = pad M := by rw [pad, padJ, HN.out, HZ.out]
          rw [e2] at hO4
          exact gives_o hO4 (hbb.grown hg4 hbbs hOr.row)
    · have hm1 : ¬ m % 64 = 56 := fun h => hqz (hmod.1 h)
      have hne : ((m : Int) % 64 != 56) = true := by rw [bne_iff_ne]; omega
      have hq1 : q + 1 ≤ Z := by omega
      have HNL := hid hnl
      clear hnl hmod hm1 hqz
      go_wp2_with (refine wpList_appO _ rfl _ _ 24 rfl w.heap.size 5 i0 _ Tryd.underlying24 hi0 hz0 hz1 hz2 rfl B m d _ rfl (hO.alloc _) _ 1 1 0 [0] rfl (Rd.one _ _ _ 0 rfl) (by simp only [maxLen]; omega) (by omega) (by simp; omega) ?_; intro D' c' w4 hO4 hg4)
      have hb4 : Below w.heap.size w w4 := (hb.alloc hbs _).grown hg4 (by simp; omega) hO.row
      rw [← padQ_succ] at hO4
      exact ⟨⟨q + 1, _, _, _, hq1, rfl, hO4, hb4⟩, by show 1000000 - (m + 1) < 1000000 - m; omega⟩
end Go.Proofs.YtheljogmnalbmaaDoor
