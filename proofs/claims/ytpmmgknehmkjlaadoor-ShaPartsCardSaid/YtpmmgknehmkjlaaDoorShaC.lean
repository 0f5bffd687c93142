/-
  Contract of sha.Read: a text's digest, or the error. Strings of at most 200 bytes.
-/
import Derived.Test.YtpmmgknehmkjlaaDoorShaB
namespace Go.Proofs.YtpmmgknehmkjlaaDoor
open Go.RowKit

/-- The number of a digit to the base of 16; below 0: it is none. -/
def dg (c : UInt8) : Int := Lib.indexByte hexDigits.data.toList c
theorem dg_all : ∀ n : Fin 256, -1 ≤ dg (UInt8.ofNat n.1) ∧ dg (UInt8.ofNat n.1) ≤ 15 ∧ (0 ≤ dg (UInt8.ofNat n.1) → hexd (dg (UInt8.ofNat n.1)).toNat = UInt8.ofNat n.1) := by decide +kernel
theorem dg_hexd : ∀ n : Fin 16, dg (hexd n.1) = (n.1 : Int) := by decide +kernel
theorem dg_bd (c : UInt8) : -1 ≤ dg c ∧ dg c ≤ 15 ∧ (0 ≤ dg c → hexd (dg c).toNat = c) := by
  have h := dg_all ⟨c.toNat, c.toNat_lt⟩
  simpa using h

theorem indexByte_hex (c : UInt8) (w : World) : Calls Tryd.prog 20 #[.string ⟨#[48, 49, 50, 51, 52, 53, 54, 55, 56, 57, 97, 98, 99, 100, 101, 102]⟩, .int .u8 (c.toNat : Int)] w fun e w' => e = .returned (.int .i64 (dg c)) ∧ w = w' := by
  refine (Tryd.strings_IndexByte ⟨#[48, 49, 50, 51, 52, 53, 54, 55, 56, 57, 97, 98, 99, 100, 101, 102]⟩ (c.toNat : Int) w).mono fun e w' ⟨he, hw⟩ => ⟨?_, hw.symm⟩
  rw [he]
  simp [dg, hexDigits]

/-- What stands in the digest behind k letters of the text. -/
def rdAt (l : List UInt8) (k j : Nat) : UInt8 :=
  if 2 * j + 1 < k then UInt8.ofNat (16 * (dg (l.getD (2 * j) 0)).toNat + (dg (l.getD (2 * j + 1) 0)).toNat) else if 2 * j < k then UInt8.ofNat (dg (l.getD (2 * j) 0)).toNat else 0
def rdL (l : List UInt8) (k : Nat) : List UInt8 := (List.range 32).map (rdAt l k)
def rdC (l : List UInt8) (k : Nat) : Array Value := ((rdL l k).map bv).toArray
theorem rdL_len (l : List UInt8) (k : Nat) : (rdL l k).length = 32 := by simp [rdL]
theorem rdC_size (l : List UInt8) (k : Nat) : (rdC l k).size = 32 := by simp [rdC, rdL]
theorem rdC_at (l : List UInt8) (k j : Nat) (h : j < 32) : (rdC l k)[j]? = some (bv (rdAt l k j)) := by simp [rdC, rdL, h]
theorem rdC_set (l : List UInt8) (k : Nat) : (rdC l k).setIfInBounds (k / 2) (bv (rdAt l (k + 1) (k / 2))) = rdC l (k + 1) := by
  apply Array.ext_getElem?
  intro j
  by_cases hj : j < 32
  · rw [Array.getElem?_setIfInBounds, rdC_at l (k + 1) j hj]
    by_cases e : k / 2 = j
    · subst e
      rw [if_pos rfl, if_pos (by rw [rdC_size]; exact hj)]
    · rw [if_neg e, rdC_at l k j hj]
      congr 2
      unfold rdAt
      by_cases c1 : 2 * j + 1 < k
      · rw [if_pos c1, if_pos (by omega)]
      · have n1 : ¬ 2 * j + 1 < k + 1 := by omega
        rw [if_neg c1, if_neg n1]
        by_cases c2 : 2 * j < k
        · rw [if_pos c2, if_pos (by omega)]
        · have n2 : ¬ 2 * j < k + 1 := by omega
          rw [if_neg c2, if_neg n2]
  · rw [Array.getElem?_eq_none (by simp [rdC_size]; omega), Array.getElem?_eq_none (by simp [rdC_size]; omega)]

theorem rdAt_step (l : List UInt8) (k : Nat) (c : UInt8) (hc : l[k]? = some c) :
    rdAt l (k + 1) (k / 2) = UInt8.ofNat ((16 * (rdAt l k (k / 2)).toNat + (dg c).toNat)) := by
  have hb := dg_bd c
  unfold rdAt
  rcases Nat.mod_two_eq_zero_or_one k with hp | hp
  · rw [if_neg (by omega), if_pos (by omega), if_neg (by omega), if_neg (by omega)]
    have e : 2 * (k / 2) = k := by omega
    rw [e, List.getD_eq_getElem?_getD, hc]
    simp
  · have e : 2 * (k / 2) + 1 = k := by omega
    have e2 : 2 * (k / 2) = k - 1 := by omega
    rw [if_pos (by omega), if_neg (by omega), if_pos (by omega), e]
    have hb2 := dg_bd (l.getD (2 * (k / 2)) 0)
    have : (UInt8.ofNat (dg (l.getD (2 * (k / 2)) 0)).toNat).toNat = (dg (l.getD (2 * (k / 2)) 0)).toNat := by
      have := hb2.2.1
      rw [UInt8.toNat_ofNat']
      omega
    have e3 : l.getD k 0 = c := by rw [List.getD_eq_getElem?_getD, hc]; rfl
    rw [this, e3]

/-- Is the text one of a digest? -/
def okHex (l : List UInt8) : Bool := l.length == 64 && l.all fun c => decide (0 ≤ dg c)
/-- What Read answers. -/
def readOf (l : List UInt8) : List UInt8 × Int := if okHex l then (rdL l 64, 0) else (List.replicate 32 0, 2)
theorem rdC_zero (l : List UInt8) : rdC l 0 = ((List.replicate 32 (0 : UInt8)).map bv).toArray := by
  unfold rdC rdL
  congr 2
/-- A digest that is nothing but zeros, as the walk writes it. -/
def zero32 : Array Value := #[.int .u8 0, .int .u8 0, .int .u8 0, .int .u8 0, .int .u8 0, .int .u8 0, .int .u8 0, .int .u8 0, .int .u8 0, .int .u8 0, .int .u8 0, .int .u8 0, .int .u8 0, .int .u8 0, .int .u8 0, .int .u8 0, .int .u8 0, .int .u8 0, .int .u8 0, .int .u8 0, .int .u8 0, .int .u8 0, .int .u8 0, .int .u8 0, .int .u8 0, .int .u8 0, .int .u8 0, .int .u8 0, .int .u8 0, .int .u8 0, .int .u8 0, .int .u8 0]
theorem zero32_eq : zero32 = ((List.replicate 32 (0 : UInt8)).map bv).toArray := rfl
theorem zero32_run (w : World) : (zeroValue 25).run Tryd.prog w = .ok (.agg zero32) w := by kernel_rfl
theorem build_zero (w : World) : (Instr.build 25 #[]).run Tryd.prog w = .ok (.agg zero32) w := by kernel_rfl
theorem dig_size (cs : Array Value) (h : cs.size = 32) : (Tryd.prog.info? 25).map (·.size) = some cs.size := by rw [h]; kernel_rfl
theorem oneBv (l : List UInt8) : ∀ v ∈ (l.map bv).toArray, v.oneCell' = true := by
  intro v hv
  exact bv_one l v (by simpa using hv)

/-- The answer: a digest and a number; what was there stands. -/
def GivesDI (w : World) (ds : List UInt8) (k : Int) (e : Ending) (w' : World) : Prop := e = .returned (.tuple #[.agg (ds.map bv).toArray, .int .i64 k]) ∧ Below w.heap.size w w'

/-- The results of a function whose first result is a digest in a variable. -/
theorem results_dig {fn : Func} {p t : Tmp} {ty : TypeId} (h : fn.results = #[.cell p ty, .tmp t]) (tmps : Array Value) (w : World) (g : Nat) (cs : Array Value) (n : Nat) (el : TypeId)
    (hp : tmps.getD p undef = .pointer (some ⟨g, 0, none⟩)) (hg : Blk w g ty cs)
    (hu : Tryd.prog.underlying ty = some (.array n el)) (hi : (Tryd.prog.info? ty).map (·.size) = some cs.size) :
    (results fn tmps).run Tryd.prog w = .ok (.tuple #[.agg cs, tmps.getD t undef]) w := by
  have hp' : tmps[p]?.getD undef = .pointer (some ⟨g, 0, none⟩) := by simpa using hp
  simp [results, h, hp', asAddr, run_loadVar_row w g ty ty cs (0, 0) (.array n el) hg hu rfl hi]

/-- The end of such a function. -/
theorem give_di {fn : Func} {p t : Tmp} {a : Act} {w w' : World} {g : Nat} {cs : Array Value} {ds : List UInt8} {k : Int} (h : fn.results = #[.cell p 25, .tmp t]) (hg : Blk w' g 25 cs) (hcs : cs = (ds.map bv).toArray) (hl : ds.length = 32)
    (hp : a.tmps.getD p undef = .pointer (some ⟨g, 0, none⟩)) (ht : a.tmps.getD t undef = .int .i64 k) (hd : a.defers = []) (hb : Below w.heap.size w w') :
    bodyPost Tryd.prog fn (GivesDI w ds k) .ret a w' := by
  have hr := results_dig h a.tmps w' g cs 32 _ hp hg Tryd.underlying25 (dig_size cs (by rw [hcs]; simpa using hl))
  rw [ht, hcs] at hr
  exact bodyPost_ret hr hd ⟨rfl, hb⟩
theorem or_nib (x q : Nat) (hx : x ≤ 15) (hq : q ≤ 15) : bits .or .u8 ((x : Int) * 16) (q : Int) = ((16 * x + q : Nat) : Int) := by
  have e : (x : Int) * 16 = ((16 * x : Nat) : Int) := by omega
  rw [e, u8_or_nat _ _ (by omega) (by omega)]
  congr 1
  exact (Nat.two_pow_add_eq_or_of_lt (i := 4) (by omega) x).symm

set_option maxHeartbeats 1000000 in
theorem read_long (s : ByteArray) (w : World) (h : ¬ s.size = 64) :
    Calls Tryd.prog 13 #[.string s] w (GivesDI w (List.replicate 32 0) 2) := by
  have hne : ((s.size : Int) != 64) = true := by rw [bne_iff_ne]; omega
  have hz := dig_size zero32 (by decide)
  go_enter Tryd.func13, Tryd.ntmps13
  go_wp2_with (first
    | (refine wpList_al rfl 25 rfl zero32 (zero32_run _) ?_; intro w1 hB1 hb1 hz1)
    | (refine wpList_ldr rfl 25 _ rfl w.heap.size rfl _ zero32 _ hB1 Tryd.underlying25 rfl hz ?_)
    | (refine wpList_str rfl 25 _ _ rfl w.heap.size zero32 rfl rfl _ zero32 hB1 rfl hz (by rw [zero32_eq]; exact oneBv _) ?_; intro w2 hB2 hg2 hz2))
  have hb2 : Below w.heap.size w w2 := hb1.grown hg2 hb1.size (by simp)
  exact give_di (p := 2) (t := 3) rfl hB2 (by rw [zero32_eq]) (by simp) rfl rfl rfl hb2

theorem rdAt_low (l : List UInt8) (k : Nat) : (rdAt l k (k / 2)).toNat ≤ 15 := by
  unfold rdAt
  rw [if_neg (by omega)]
  split
  · have := dg_bd (l.getD (2 * (k / 2)) 0)
    rw [UInt8.toNat_ofNat']
    omega
  · decide

set_option maxHeartbeats 2000000 in
theorem read_64 (s : ByteArray) (w : World) (h : s.size = 64) :
    Calls Tryd.prog 13 #[.string s] w (GivesDI w (readOf s.data.toList).1 (readOf s.data.toList).2) := by
  have hne : ((s.size : Int) != 64) = false := by rw [bne_eq_false_iff_eq]; omega
  have hz := dig_size zero32 (by decide)
  have hl : s.data.toList.length = 64 := by simpa using h
  have hsz : s.size ≤ 64 := by omega
  have hsz2 : 64 ≤ s.size := by omega
  have Hh := hid h
  clear h
  go_enter Tryd.func13, Tryd.ntmps13
  go_wp2_with (first
    | (refine wpList_al rfl 25 rfl zero32 (zero32_run _) ?_; intro w1 hB1 hb1 hz1))
  go_loopw [4, 5, 12] (fun _ _ i wr => ∃ k : Nat, k ≤ 64 ∧ i = .int .i64 k ∧ Blk wr w.heap.size 25 (rdC s.data.toList k) ∧ Below w.heap.size w wr ∧ (∀ j, j < k → 0 ≤ dg (s.data.toList.getD j 0))) (fun _ _ i _ => 64 - (intOf i).toNat)
  case atStart => exact ⟨0, Nat.zero_le _, rfl, by rw [rdC_zero, ← zero32_eq]; exact hB1, hb1, fun j hj => by omega⟩
  case round =>
    obtain ⟨k, hk, rfl, hB, hb, hgood⟩ := hrel
    by_cases hlt : k < 64
    · have hlt2 : k < s.size := by omega
      have hc : s.data.toList[k]? = some (s[k]'hlt2) := by rw [List.getElem?_eq_getElem (by simpa using hlt2)]; rfl
      have hbd := dg_bd (s[k]'hlt2)
      have hIB := hid (indexByte_hex (s[k]'hlt2) wr)
      generalize hcc : s[k]'hlt2 = c at *
      by_cases hneg : dg c < 0
      · have hbad : readOf s.data.toList = (List.replicate 32 0, 2) := by
          unfold readOf okHex
          have : (s.data.toList.all fun c => decide (0 ≤ dg c)) = false := by
            rw [List.all_eq_false]
            exact ⟨c, List.mem_of_getElem? hc, by simpa using hneg⟩
          rw [this, Bool.and_false]
          rfl
        rw [hbad]
        have hcz : (rdC s.data.toList k).size = 32 := rdC_size _ _
        generalize rdC s.data.toList k = C at *
        generalize hq : dg c = q at *
        have HC := hid hc
        have HG := hid hgood
        have HCZ := hid hcz
        clear hq hc hgood hbad hcz
        go_wp2_with (first
          | (refine hIB.out.mono ?_; rintro e w2 ⟨rfl, rfl⟩)
          | (refine wpList_str rfl 25 _ _ rfl w.heap.size zero32 rfl rfl _ C hB (by rw [HCZ.out]; rfl) (dig_size C HCZ.out) (by rw [zero32_eq]; exact oneBv _) ?_; intro w3 hB3 hg3 hz3))
        exact give_di (p := 2) (t := 3) rfl hB3 (by rw [zero32_eq]) (by simp) rfl rfl rfl (hb.grown hg3 hb.size (by simp))
      · have hst := hid (rdAt_step s.data.toList k c hc)
        have hlow := rdAt_low s.data.toList k
        have hcell := hB.cellv (rdC_at s.data.toList k (k / 2) (by omega))
        have hfr := hB.frozen (k / 2)
        generalize hx : rdAt s.data.toList k (k / 2) = x at *
        generalize hq : dg c = q at *
        have HQ := hid hq
        have HX := hid hx
        have HC := hid hc
        have HG := hid hgood
        clear hq hx hc hgood
        unfold bv at hcell
        go_wp2_with (refine hIB.out.mono ?_; rintro e w2 ⟨rfl, rfl⟩)
        go_roundw
        case rel =>
          obtain ⟨q', rfl⟩ := Int.eq_ofNat_of_zero_le (a := q) (by omega)
          refine ⟨k + 1, by omega, by go_num, ?_, hb.setCell (Nat.le_refl _) _, fun j hj => ?_⟩
          · rw [← rdC_set, hst.out, or_nib _ _ hlow (by omega)]
            have : Value.int .u8 ((16 * x.toNat + q' : Nat) : Int) = bv (UInt8.ofNat (16 * x.toNat + (q' : Int).toNat)) := by
              unfold bv
              congr 1
              rw [UInt8.toNat_ofNat', Int.toNat_natCast]
              omega
            rw [this]
            exact hB.set_ _ _
          · by_cases e : j = k
            · subst e
              rw [List.getD_eq_getElem?_getD, HC.out]
              show 0 ≤ dg c
              rw [HQ.out]
              omega
            · exact HG.out j (by omega)
        case measure => simp [intOf]; omega
    · have : k = 64 := by omega
      subst this
      have hok : readOf s.data.toList = (rdL s.data.toList 64, 0) := by
        unfold readOf okHex
        have : (s.data.toList.all fun c => decide (0 ≤ dg c)) = true := by
          rw [List.all_eq_true]
          intro c hc
          obtain ⟨j, hj, rfl⟩ := List.mem_iff_getElem.1 hc
          have := hgood j (by omega)
          rw [List.getD_eq_getElem?_getD, List.getElem?_eq_getElem hj] at this
          simpa using this
        rw [this, hl]
        rfl
      have HOK := hid hok
      have hcz : (rdC s.data.toList 64).size = 32 := rdC_size _ _
      have hone : ∀ v ∈ rdC s.data.toList 64, v.oneCell' = true := oneBv _
      generalize hC : rdC s.data.toList 64 = C at *
      have HC := hid hC
      have HCZ := hid hcz
      clear hC hcz hok hgood
      have hzC := dig_size C HCZ.out
      go_wp2_with (first
        | (refine wpList_ldr rfl 25 _ rfl w.heap.size rfl _ C _ hB Tryd.underlying25 rfl hzC ?_)
        | (refine wpList_str rfl 25 _ _ rfl w.heap.size C rfl rfl _ C hB rfl hzC hone ?_; intro w2 hB2 hg2 hz2))
      rw [HOK.out]
      exact give_di (p := 2) (t := 3) rfl hB2 (by rw [← HC.out]; rfl) (rdL_len _ _) rfl rfl rfl (hb.grown hg2 hb.size (by simp))
end Go.Proofs.YtpmmgknehmkjlaaDoor
