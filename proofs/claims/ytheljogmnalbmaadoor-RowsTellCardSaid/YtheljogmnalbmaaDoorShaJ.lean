/-
  Contract of sha.Of: the digest of parts is that of their bytes, one part behind the other. Parts of at most 100,000 bytes together.
-/
import Derived.Test.YtheljogmnalbmaaDoorShaH
import Derived.Test.YtheljogmnalbmaaDoorShaI
import Derived.Test.YtheljogmnalbmaaDoorOwnO
import Derived.Outline
namespace Go.Proofs.YtheljogmnalbmaaDoor
open Go.RowKit

theorem byte_info : (Tryd.prog.info? 5).map (fun i => (i.zero, i.size, i.bytes)) = some (some (.int .u8 0), 1, 1) := by kernel_rfl
/-- A slice of slices of bytes: its parts. -/
def Parts (w : World) (P : Option Addr) (np : Nat) (pss : List (List UInt8)) : Prop :=
  pss.length = np ∧ ∀ i, i < np → ∃ b o A n c, P = some ⟨b, o, none⟩ ∧ b < w.heap.size ∧ w.cell? ⟨b, o + i, none⟩ = some (.slice A n c) ∧ Rd w 0 1 A n ((pss.getD i []).map bv)
theorem Parts.below {w w' : World} {P : Option Addr} {np : Nat} {pss : List (List UInt8)} (h : Parts w P np pss) (hb : Below w.heap.size w w') : Parts w' P np pss :=
  ⟨h.1, fun i hi => by
    obtain ⟨b, o, A, n, c, e, hlt, hc, hr⟩ := h.2 i hi
    exact ⟨b, o, A, n, c, e, by have := hb.size; omega, (World.cell?_of_block (a := ⟨b, o + i, none⟩) (hb.block b hlt)).trans hc, hr.below hb⟩⟩
theorem KOk.belowB {B : Nat} {w w' : World} (h : KOk w) (hb : Below B w w') (hB : 0 < B) : KOk w' := fun t ht => by
  have h1 := h t ht
  rw [← h1]
  exact World.cell?_of_block (hb.block _ hB)
/-- The bytes of the first parts. -/
def cat (pss : List (List UInt8)) (i : Nat) : List UInt8 := (pss.take i).flatten
theorem cat_succ (pss : List (List UInt8)) (i : Nat) (h : i < pss.length) : cat pss (i + 1) = cat pss i ++ pss.getD i [] := by
  rw [cat, cat, List.take_succ_eq_append_getElem h, List.flatten_append, List.getD_eq_getElem?_getD, List.getElem?_eq_getElem h]
  simp
theorem cat_full (pss : List (List UInt8)) : cat pss pss.length = pss.flatten := by simp [cat]
theorem cat_le (pss : List (List UInt8)) (i : Nat) : (cat pss i).length ≤ pss.flatten.length := by
  have : pss.flatten = cat pss i ++ (pss.drop i).flatten := by rw [cat, ← List.flatten_append, List.take_append_drop]
  rw [this, List.length_append]
  omega
theorem init_run : (wrow hInit) = #[.int .u32 1779033703, .int .u32 3144134277, .int .u32 1013904242, .int .u32 2773480762, .int .u32 1359893119, .int .u32 2600822924, .int .u32 528734635, .int .u32 1541459225] := rfl
/-- '[]byte{b}' -/
theorem Rd.one (w : World) (e : TypeId) (x : Value) (b : UInt8) (h : x = bv b) : Rd (w.alloc (.cells #[x] e)) 0 1 (some ⟨w.heap.size, 0, none⟩) 1 ([b].map bv) := by
  subst h
  exact (Rd.lit w e 1 [bv b] rfl).low (Nat.zero_le _)
theorem dig_val (x : UInt32) (m : Nat) : Value.int .u8 ((x.toNat : Int) / 2 ^ m % 256) = bv (wlow (wshr x m)) := by
  unfold bv wlow
  rw [UInt8.toNat_ofNat', w_shr]
  congr 1
/-- The result of a function whose only result is a digest in a variable. -/
theorem results_dig1 {fn : Func} {p : Tmp} {ty : TypeId} (h : fn.results = #[.cell p ty]) (tmps : Array Value) (w : World) (g : Nat) (cs : Array Value) (n : Nat) (el : TypeId)
    (hp : tmps.getD p undef = .pointer (some ⟨g, 0, none⟩)) (hg : Blk w g ty cs)
    (hu : Tryd.prog.underlying ty = some (.array n el)) (hi : (Tryd.prog.info? ty).map (·.size) = some cs.size) :
    (results fn tmps).run Tryd.prog w = .ok (.agg cs) w := by
  have hp' : tmps[p]?.getD undef = .pointer (some ⟨g, 0, none⟩) := by simpa using hp
  simp [results, h, hp', asAddr, run_loadVar_row w g ty ty cs (0, 0) (.array n el) hg hu rfl hi]
def zeroD : Array Value := ((List.replicate 32 (0 : UInt8)).map bv).toArray
theorem zeroD_run (w : World) : (zeroValue 23).run Tryd.prog w = .ok (.agg zeroD) w := by kernel_rfl

set_option maxRecDepth 100000 in
set_option maxHeartbeats 4000000 in
theorem of_any (P : Option Addr) (np pc : Nat) (pss : List (List UInt8)) (M : List UInt8) (hM : pss.flatten = M) (N : Nat) (hN : M.length = N) (w : World) (hP : Parts w P np pss) (hlen : N ≤ 100000) (hnp : np ≤ 100000) (hK : KOk w) :
    Calls Tryd.prog 35 #[.slice P np pc] w fun e w' => e = .returned (.agg ((shaOf M).map bv).toArray) ∧ Below w.heap.size w w' := by
  have HM := hid hM
  have HN := hid hN
  have hcatle : ∀ i, (cat pss i).length ≤ N := fun i => by rw [← hN, ← hM]; exact cat_le pss i
  have HCat := hid hcatle
  clear hcatle hM hN
  obtain ⟨i0, hi0, hz0, hz1, hz2⟩ := info_parts byte_info
  have hsI : (Tryd.prog.info? 71).map (·.size) = some zero8.size := by kernel_rfl
  have hKl := hK.lt
  go_enter Tryd.func35, Tryd.ntmps35
  go_wp2_with (first
    | (refine wpList_al rfl 23 rfl zeroD (zeroD_run _) ?_; intro w1 hD1 hb1 hz1)
    | (refine wpList_al rfl 71 rfl zero8 (zero8_run _) ?_; intro w2 hS2 hb2 hz2)
    | (refine wpList_str rfl 71 _ _ rfl w1.heap.size (wrow hInit) rfl rfl _ zero8 hS2 rfl hsI (wrow_one _) ?_; intro w3 hS3 hg3 hz3))
  have hb3 : Below w.heap.size w w3 := hb1.trans ((hb2.grown hg3 hb2.size (by simp)).mono hb1.size)
  have hD3 : Blk w3 w.heap.size 23 zeroD := (hD1.belowS hb2).grown hg3 (by simp; omega)
  have hS3' : Blk w3 (w.heap.size + 1) 71 (wrow hInit) := by rw [← hz1]; exact hS3
  have hsz3 : w.heap.size + 2 ≤ w3.heap.size := by omega
  clear hD1 hb1 hS2 hb2 hS3 hg3 hz1 hz2 hz3 hsI
  go_loopw [13, 4, 5, 7] (fun i v m _ wr => ∃ (t k : Nat) (A : Option Addr) (n c : Nat), t ≤ np ∧ i = .int .i64 t ∧ v = .slice A n c ∧ m = .int .u64 ((cat pss t).length : Nat) ∧ OwnO wr (w.heap.size + 2) A n c ((cat pss t).drop (64 * k)) ∧ 64 * k ≤ (cat pss t).length ∧ Blk wr (w.heap.size + 1) 71 (wrow (fold hInit (cat pss t) k)) ∧ Blk wr w.heap.size 23 zeroD ∧ Below w.heap.size w wr ∧ w.heap.size + 2 ≤ wr.heap.size) (fun i _ _ _ _ => np - (intOf i).toNat)
  case atStart => exact ⟨0, 0, none, 0, 0, Nat.zero_le _, rfl, rfl, rfl, OwnO.nil _ _ _, Nat.le_refl _, hS3', hD3, hb3, hsz3⟩
  case round =>
    clear hS3' hD3 hb3 hsz3
    obtain ⟨t, k, A, n, c, ht, rfl, rfl, rfl, hO, hk, hS, hD, hb, hsz⟩ := hrel
    by_cases hlt : t < np
    · have hPr := hP.below hb
      obtain ⟨b, o, pA, pn, pc', hPe, hbl, hcell, hpr⟩ := hPr.2 t hlt
      have hcs := cat_succ pss t (by rw [hPr.1]; exact hlt)
      have hcl := HCat.out (t + 1)
      have hpl : (pss.getD t []).length = pn := by simpa using hpr.1
      generalize pss.getD t [] = ps at *
      have hnl := hO.1
      rw [List.length_drop] at hnl
      have hcl' : (cat pss t).length + pn ≤ 100000 := by rw [hcs, List.length_append] at hcl; omega
      have hcn : (cat pss (t + 1)).length = (cat pss t).length + pn := by rw [hcs, List.length_append, hpl]
      generalize hX : (cat pss t).length = X at *
      have hti : (t : Int) < np := by omega
      have htz : (0 : Int) ≤ (t : Int) := by omega
      have hX1 : (X : Int) + (pn : Int) ≤ 100000 := by omega
      have hX0 : (0 : Int) ≤ (X : Int) + (pn : Int) := by omega
      have hnb : n + pn ≤ 100000 := by omega
      have HCS := hid hcs
      have HX := hid hX
      have HCN := hid hcn
      have HPL := hid hpl
      have HNL := hid hnl
      clear hcs hX hcn hpl hnl
      subst hPe
      go_wp2_with (refine wpList_appO _ rfl _ _ 24 rfl (w.heap.size + 2) 5 i0 _ Tryd.underlying24 hi0 hz0 hz1 hz2 rfl A n c _ rfl hO pA pn pc' 0 ps rfl hpr (by simp only [maxLen]; omega) (by omega) hsz ?_; intro D' c' w4 hO4 hg4)
      rw [drop_app _ _ _ (by rw [HX.out]; exact hk), ← HCS.out] at hO4
      have hS4 := hS.grown hg4 (by intro e; have := hO.row _ e.symm; omega)
      have hD4 := hD.grown hg4 (by intro e; have := hO.row _ e.symm; omega)
      have hb4 : Below w.heap.size w w4 := hb.grown hg4 hb.size (fun g e => by have := hO.row _ e; omega)
      have hsz4 : w.heap.size + 2 ≤ w4.heap.size := by have := hg4.size; omega
      have hk4 : 64 * k ≤ (cat pss (t + 1)).length := by rw [HCN.out]; omega
      rw [← fold_append hInit (cat pss t) ps k (by rw [HX.out]; exact hk), ← HCS.out] at hS4
      have hcn2 := HCN.out
      clear hg4 hS hD hO hb hsz hPr hcell hpr hbl hk hti htz hX1 hX0 hcl' hnb
      clear HCS HX HCN HPL HNL
      generalize hL : cat pss (t + 1) = L at *
      have HL := hid hL
      have HLN := hid hcn2
      have HCL := hid hcl
      have htL := hid hlt
      clear hL hcn2 hcl hlt
      obtain ⟨wo, rfl⟩ : ∃ wo : World, wo = wr := ⟨_, rfl⟩
      go_loopw [4] (fun v wx => ∃ (k : Nat) (A : Option Addr) (n c : Nat), v = .slice A n c ∧ OwnO wx (w.heap.size + 2) A n c (L.drop (64 * k)) ∧ 64 * k ≤ L.length ∧ Blk wx (w.heap.size + 1) 71 (wrow (fold hInit L k)) ∧ Blk wx w.heap.size 23 zeroD ∧ Below w.heap.size w wx ∧ w.heap.size + 2 ≤ wx.heap.size) (fun v _ => match v with | .slice _ n _ => n | _ => 0)
      case atStart => exact ⟨k, _, _, _, rfl, hO4, hk4, hS4, hD4, hb4, hsz4⟩
      case round =>
        clear hO4 hk4 hS4 hD4 hb4 hsz4
        obtain ⟨k, A, n, c, rfl, hO, hk, hS, hD, hb, hsz⟩ := hrel
        have hnl := hO.1
        rw [List.length_drop] at hnl
        by_cases h64 : 64 ≤ n
        · have hrd : Rd wr (w.heap.size + 2) 1 A 64 ((blkAt L k).map bv) := hO.rd.takeB h64
          have hKr := hK.belowB hb hKl
          have hnc := hO.2.1
          have hcall := hid (block_any (w.heap.size + 1) (fold hInit L k) (fold_len _ _ rfl k) A c (w.heap.size + 2) (blkAt L k) wr hS hrd hKr)
          have h64i : (64 : Int) ≤ (n : Int) := by omega
          have h64c : (64 : Int) ≤ (c : Int) := by omega
          have hkk : 64 * (k + 1) ≤ L.length := by omega
          have HNL := hid hnl
          clear hnl
          have close : ∀ w5 A' c', OwnO wr (w.heap.size + 2) A' (n - 64) c' ((L.drop (64 * k)).drop 64) → Blk w5 (w.heap.size + 1) 71 (wrow (comp (fold hInit L k) (blkAt L k))) → wr.grownBy w5 (some (w.heap.size + 1)) →
              (OwnO w5 (w.heap.size + 2) A' (n - 64) c' (L.drop (64 * (k + 1))) ∧ 64 * (k + 1) ≤ L.length ∧ Blk w5 (w.heap.size + 1) 71 (wrow (fold hInit L (k + 1))) ∧ Blk w5 w.heap.size 23 zeroD ∧ Below w.heap.size w w5 ∧ w.heap.size + 2 ≤ w5.heap.size) := by
            intro w5 A' c' h1 h2 h3
            rw [drop_rest] at h1
            exact ⟨h1.grown h3 (by intro g e; cases e; omega), hkk, h2, hD.grown h3 (by simp), hb.grown h3 hb.size (by intro g e; cases e; omega), by have := h3.size; omega⟩
          have HC := hid close
          clear close
          by_cases hc64 : c = 64
          · have hd := hid (hO.dropE h64 hc64)
            subst hc64
            obtain rfl : n = 64 := by omega
            clear h64i h64c
            go_wp2_with ((with_reducible refine hcall.out.mono ?_); rintro e w5 ⟨rfl, hS5, hg5⟩)
            exact ⟨⟨k + 1, _, _, _, rfl, HC.out w5 _ _ hd.out hS5 hg5⟩, by show (0 : Nat) < 64; decide⟩
          · have hd := hid (hO.dropN h64 hc64)
            go_wp2_with ((with_reducible refine hcall.out.mono ?_); rintro e w5 ⟨rfl, hS5, hg5⟩)
            exact ⟨⟨k + 1, _, _, _, rfl, HC.out w5 _ _ hd.out hS5 hg5⟩, by simp only []; omega⟩
        · have hni : (n : Int) < 64 := by omega
          have HNL := hid hnl
          clear hnl
          go_wp2_with fail
          go_roundw
          case rel =>
            have e1 := HLN.out
            have e2 := HL.out
            refine ⟨t + 1, k, A, n, c, by have := htL.out; omega, by go_num, rfl, ?_, by rw [e2]; exact hO, by rw [e2]; exact hk, by rw [e2]; exact hS, hD, hb, hsz⟩
            rw [e2, e1]
            simp
          case measure => have := htL.out; simp [intOf]; omega
    · have : t = np := by omega
      subst this
      have ec : cat pss t = M := by rw [← hP.1, cat_full]; exact HM.out
      have eN : (cat pss t).length = N := by rw [ec]; exact HN.out
      rw [ec] at hO hS
      rw [eN] at hk
      have hnl := hO.1
      rw [List.length_drop, HN.out] at hnl
      rw [eN]
      clear hP hnp ht hlt ec eN
      have hn : n ≤ 100000 := by omega
      have HNL := hid hnl
      clear hnl
      go_wp2_with (refine wpList_appO _ rfl _ _ 24 rfl (w.heap.size + 2) 5 i0 _ Tryd.underlying24 hi0 hz0 hz1 hz2 rfl A n c _ rfl (hO.alloc _) _ 1 1 0 [128] rfl (Rd.one _ _ _ 128 rfl) (by simp only [maxLen]; omega) (by omega) (by simp; omega) ?_; intro D' c' w4 hO4 hg4)
      have hrow := (hO.alloc (.cells #[.int .u8 128] 5)).row
      have hS4 := (hS.alloc (.cells #[.int .u8 128] 5)).grown hg4 (by intro e; have := hrow _ e.symm; omega)
      have hD4 := (hD.alloc (.cells #[.int .u8 128] 5)).grown hg4 (by intro e; have := hrow _ e.symm; omega)
      have hb4 : Below w.heap.size w w4 := (hb.alloc hb.size (.cells #[.int .u8 128] 5)).grown hg4 (by simp; omega) (fun g e => by have := hrow _ e; omega)
      have hsz4 : w.heap.size + 2 ≤ w4.heap.size := by have := hg4.size; simp at this; omega
      rw [drop_app _ _ _ (by rw [HN.out]; exact hk)] at hO4
      have hO4' : OwnO w4 (w.heap.size + 2) D' (n + 1) c' ((padQ M 0).drop (64 * k)) := by simpa [padQ] using hO4
      clear hO hS hD hb hsz hrow hg4 hO4
      obtain ⟨wo, rfl⟩ : ∃ wo : World, wo = wr := ⟨_, rfl⟩
      have hzl := zerosN_lt N
      obtain ⟨Z, hZ⟩ : ∃ Z, zerosN N = Z := ⟨_, rfl⟩
      rw [hZ] at hzl
      have HZ := hid hZ
      clear hZ
      go_loopw [4] (fun v wx => ∃ (q : Nat) (A : Option Addr) (n c : Nat), q ≤ Z ∧ v = .slice A n c ∧ OwnO wx (w.heap.size + 2) A n c ((padQ M q).drop (64 * k)) ∧ Blk wx (w.heap.size + 1) 71 (wrow (fold hInit M k)) ∧ Blk wx w.heap.size 23 zeroD ∧ Below w.heap.size w wx ∧ w.heap.size + 2 ≤ wx.heap.size) (fun v _ => match v with | .slice _ n _ => 1000000 - n | _ => 0)
      case atStart => exact ⟨0, _, _, _, Nat.zero_le _, rfl, hO4', hS4, hD4, hb4, hsz4⟩
      case round =>
        clear hO4' hS4 hD4 hb4 hsz4
        obtain ⟨q, A, n, c, hq, rfl, hO, hS, hD, hb, hsz⟩ := hrel
        have hnl := hO.1
        rw [List.length_drop, padQ_len, HN.out] at hnl
        have hn : n ≤ 100100 := by omega
        have hkq : Hid (64 * k ≤ (padQ M q).length) := by apply hid; rw [padQ_len, HN.out]; omega
        have hmod : n % 64 = 56 ↔ q = Z := by
          have h1 := zerosN_mod N q (by rw [HZ.out]; exact hq)
          rw [HZ.out] at h1
          rw [← h1]
          omega
        by_cases hqz : q = Z
        · have hm := hmod.2 hqz
          have hne : ((n : Int) % 64 != 56) = false := by rw [bne_eq_false_iff_eq]; omega
          have HNL := hid hnl
          clear hnl hmod hm
          subst hqz
          go_wp2_with fail
          have h0 : padQ M q = padJ M 0 := by simp [padJ, lenB, HN.out, HZ.out]
          rw [h0] at hO hkq
          obtain ⟨wp, rfl⟩ : ∃ wp : World, wp = wr := ⟨_, rfl⟩
          clear h0 hne hq hn
          go_loopw [8, 4] (fun i v wx => ∃ (j : Nat) (A : Option Addr) (n c : Nat), j ≤ 8 ∧ i = .int .i64 (56 - 8 * (j : Int)) ∧ v = .slice A n c ∧ OwnO wx (w.heap.size + 2) A n c ((padJ M j).drop (64 * k)) ∧ Blk wx (w.heap.size + 1) 71 (wrow (fold hInit M k)) ∧ Blk wx w.heap.size 23 zeroD ∧ Below w.heap.size w wx ∧ w.heap.size + 2 ≤ wx.heap.size) (fun i _ _ => (intOf i + 8).toNat)
          case atStart => exact ⟨0, _, _, _, Nat.zero_le _, rfl, rfl, hO, hS, hD, hb, hsz⟩
          case round =>
            clear hO hS hD hb hsz
            obtain ⟨j, A, n, c, hj, rfl, rfl, hO, hS, hD, hb, hsz⟩ := hrel
            have hnl := hO.1
            rw [List.length_drop, padJ_len, HN.out, HZ.out] at hnl
            have hn : n ≤ 100200 := by omega
            have hkj : Hid (64 * k ≤ (padJ M j).length) := by apply hid; rw [padJ_len, HN.out]; omega
            by_cases hj8 : j < 8
            · obtain ⟨I, hI⟩ : ∃ I : Nat, I = 56 - 8 * j := ⟨_, rfl⟩
              have hIi : (56 - 8 * (j : Int)) = (I : Int) := by omega
              rw [hIi]
              have hI0 : (0 : Int) ≤ (I : Int) := by omega
              have hI1 : (I : Int) ≤ 56 := by omega
              have hNb : (N : Int) ≤ 100000 := by omega
              have hla : lenAt N j = UInt8.ofNat (8 * N / 2 ^ I) := by rw [hI]; rfl
              have HNL := hid hnl
              have HII := hid hIi
              have HI := hid hI
              have hlv : Value.int .u8 (8 * (N : Int) / 2 ^ I % 256) = bv (lenAt N j) := by
                rw [hla]
                unfold bv
                congr 1
              have HLV := hid hlv
              clear hnl hIi hI hla hlv
              go_wp2_with (refine wpList_appO _ rfl _ _ 24 rfl (w.heap.size + 2) 5 i0 _ Tryd.underlying24 hi0 hz0 hz1 hz2 rfl A n c _ rfl (hO.alloc _) _ 1 1 0 [lenAt N j] rfl (Rd.one wr _ (.int .u8 (8 * (N : Int) / 2 ^ I % 256)) _ HLV.out) (by simp only [maxLen]; omega) (by omega) (by simp; omega) ?_; intro D' c' w4 hO4 hg4)
              have hrow := (hO.alloc (.cells #[.int .u8 (8 * (N : Int) / 2 ^ I % 256)] 5)).row
              have hS4 := (hS.alloc (.cells #[.int .u8 (8 * (N : Int) / 2 ^ I % 256)] 5)).grown hg4 (by intro e; have := hrow _ e.symm; omega)
              have hD4 := (hD.alloc (.cells #[.int .u8 (8 * (N : Int) / 2 ^ I % 256)] 5)).grown hg4 (by intro e; have := hrow _ e.symm; omega)
              have hb4 : Below w.heap.size w w4 := (hb.alloc hb.size (.cells #[.int .u8 (8 * (N : Int) / 2 ^ I % 256)] 5)).grown hg4 (by simp; omega) (fun g e => by have := hrow _ e; omega)
              have hsz4 : w.heap.size + 2 ≤ w4.heap.size := by have := hg4.size; simp at this; omega
              rw [drop_app _ _ _ hkj.out, show [lenAt N j] = [lenAt M.length j] by rw [HN.out], ← padJ_succ] at hO4
              have hI2 : (I : Int) - 8 = 56 - 8 * ((j + 1 : Nat) : Int) := by have := HII.out; omega
              exact ⟨⟨j + 1, _, _, _, by omega, by rw [← hI2], rfl, hO4, hS4, hD4, hb4, hsz4⟩, by simp only [intOf]; omega⟩
            · have hj8' : j = 8 := by omega
              subst hj8'
              rw [show (56 - 8 * ((8 : Nat) : Int)) = -8 from by decide]
              have hpm := pad_len M
              have hpl : (pad M).length = N + 1 + q + 8 := by rw [pad, padJ_len, HN.out, HZ.out]
              have hkp : 64 * k ≤ (pad M).length := by omega
              rw [← pad_fold _ _ _ (by rw [HN.out]; exact hk)] at hS
              have hO' : OwnO wr (w.heap.size + 2) A n c ((pad M).drop (64 * k)) := hO
              have HPM := hid hpm
              have HPL := hid hpl
              have HNL := hid hnl
              clear hpm hpl hnl hO hkj
              go_wp2_with fail
              obtain ⟨wq, rfl⟩ : ∃ wq : World, wq = wr := ⟨_, rfl⟩
              go_loopw [4] (fun v wx => ∃ (k : Nat) (A : Option Addr) (n c : Nat), v = .slice A n c ∧ OwnO wx (w.heap.size + 2) A n c ((pad M).drop (64 * k)) ∧ 64 * k ≤ (pad M).length ∧ Blk wx (w.heap.size + 1) 71 (wrow (fold hInit (pad M) k)) ∧ Blk wx w.heap.size 23 zeroD ∧ Below w.heap.size w wx ∧ w.heap.size + 2 ≤ wx.heap.size) (fun v _ => match v with | .slice _ n _ => n | _ => 0)
              case atStart => exact ⟨k, _, _, _, rfl, hO', hkp, hS, hD, hb, hsz⟩
              case round =>
                clear hO' hS hD hb hsz hkp
                obtain ⟨k, A, n, c, rfl, hO, hk, hS, hD, hb, hsz⟩ := hrel
                have hnl := hO.1
                rw [List.length_drop] at hnl
                have hpm := HPM.out
                by_cases h0 : 0 < n
                · have h64 : 64 ≤ n := by omega
                  have hrd : Rd wr (w.heap.size + 2) 1 A 64 ((blkAt (pad M) k).map bv) := hO.rd.takeB h64
                  have hKr := hK.belowB hb hKl
                  have hnc := hO.2.1
                  have hcall := hid (block_any (w.heap.size + 1) (fold hInit (pad M) k) (fold_len _ _ rfl k) A c (w.heap.size + 2) (blkAt (pad M) k) wr hS hrd hKr)
                  have h0i : (0 : Int) < (n : Int) := by omega
                  have h64i : (64 : Int) ≤ (n : Int) := by omega
                  have h64c : (64 : Int) ≤ (c : Int) := by omega
                  have hkk : 64 * (k + 1) ≤ (pad M).length := by omega
                  have HNL := hid hnl
                  clear hnl hpm
                  have close : ∀ w5 A' c', OwnO wr (w.heap.size + 2) A' (n - 64) c' (((pad M).drop (64 * k)).drop 64) → Blk w5 (w.heap.size + 1) 71 (wrow (comp (fold hInit (pad M) k) (blkAt (pad M) k))) → wr.grownBy w5 (some (w.heap.size + 1)) →
                      (OwnO w5 (w.heap.size + 2) A' (n - 64) c' ((pad M).drop (64 * (k + 1))) ∧ 64 * (k + 1) ≤ (pad M).length ∧ Blk w5 (w.heap.size + 1) 71 (wrow (fold hInit (pad M) (k + 1))) ∧ Blk w5 w.heap.size 23 zeroD ∧ Below w.heap.size w w5 ∧ w.heap.size + 2 ≤ w5.heap.size) := by
                    intro w5 A' c' h1 h2 h3
                    rw [drop_rest] at h1
                    exact ⟨h1.grown h3 (by intro g e; cases e; omega), hkk, h2, hD.grown h3 (by simp), hb.grown h3 hb.size (by intro g e; cases e; omega), by have := h3.size; omega⟩
                  have HC := hid close
                  clear close
                  by_cases hc64 : c = 64
                  · have hd := hid (hO.dropE h64 hc64)
                    subst hc64
                    obtain rfl : n = 64 := by omega
                    clear h64i h64c h0i
                    go_wp2_with ((with_reducible refine hcall.out.mono ?_); rintro e w5 ⟨rfl, hS5, hg5⟩)
                    exact ⟨⟨k + 1, _, _, _, rfl, HC.out w5 _ _ hd.out hS5 hg5⟩, by show (0 : Nat) < 64; decide⟩
                  · have hd := hid (hO.dropN h64 hc64)
                    go_wp2_with ((with_reducible refine hcall.out.mono ?_); rintro e w5 ⟨rfl, hS5, hg5⟩)
                    exact ⟨⟨k + 1, _, _, _, rfl, HC.out w5 _ _ hd.out hS5 hg5⟩, by simp only []; omega⟩
                · obtain rfl : n = 0 := by omega
                  have hkL : k = (pad M).length / 64 := by omega
                  have eS : fold hInit (pad M) k = shaB M := by rw [hkL]; rfl
                  rw [eS] at hS
                  have hsl := shaB_len M
                  have hst : shaOf M = digL (shaB M) 32 := rfl
                  generalize shaB M = st at *
                  have HST := hid hst
                  have HSL := hid hsl
                  clear hnl hpm hkL hst hsl eS hO
                  go_wp2_with fail
                  obtain ⟨wu, rfl⟩ : ∃ wu : World, wu = wr := ⟨_, rfl⟩
                  have hD' : Blk wu w.heap.size 23 ((digRow st 0).map bv).toArray := by rw [digRow_zero]; exact hD
                  clear hD HCat HNL hn hk
                  go_loopw [64, 9] (fun i _ wx => ∃ t : Nat, t ≤ 32 ∧ i = .int .i64 t ∧ Blk wx w.heap.size 23 ((digRow st t).map bv).toArray ∧ Blk wx (w.heap.size + 1) 71 (wrow st) ∧ Below w.heap.size w wx) (fun i _ _ => 32 - (intOf i).toNat)
                  case atStart => exact ⟨0, Nat.zero_le _, rfl, hD', hS, hb⟩
                  case round =>
                    clear hD' hS hb hsz
                    obtain ⟨i, hi, rfl, hD, hS, hb⟩ := hrel
                    by_cases hlt : i < 32
                    · have c1 := hS.cellv (wrow_at st (i / 4) (by rw [HSL.out]; omega))
                      have c2 := hD.cellv (digRow_next st i hlt)
                      have f2 := hD.frozen i
                      have hset := hid (digRow_set st i hlt)
                      unfold uv at c1
                      have hda : digAt st i = wlow (wshr (st.getD (i / 4) 0) (24 - 8 * (i % 4))) := rfl
                      generalize digAt st i = dv at *
                      generalize st.getD (i / 4) 0 = x at *
                      have HDA := hid hda
                      have i1 : (i : Int) < 32 := by omega
                      have i0 : (0 : Int) ≤ (i : Int) := by omega
                      clear hda
                      go_wp2_with fail
                      rw [dig_val, ← HDA.out]
                      exact ⟨⟨i + 1, by omega, by go_num, by rw [← hset.out]; exact hD.set_ _ _, hS.far (by omega) _, hb.setCell (Nat.le_refl _) _⟩, by simp [intOf]; omega⟩
                    · have hi32 : i = 32 := by omega
                      subst hi32
                      rw [digRow_full, ← HST.out] at hD
                      have hcz : ((shaOf M).map bv).toArray.size = 32 := by simp [shaOf_len]
                      have hone : ∀ v ∈ ((shaOf M).map bv).toArray, v.oneCell' = true := fun v hv => bv_one _ v (by simpa using hv)
                      have hzC : (Tryd.prog.info? 23).map (·.size) = some ((shaOf M).map bv).toArray.size := by rw [hcz]; kernel_rfl
                      generalize hC : ((shaOf M).map bv).toArray = C at *
                      have HC := hid hC
                      clear hlt hi HST HSL hC
                      go_wp2_with (first
                        | (refine wpList_ldr rfl 23 _ rfl w.heap.size rfl _ C _ hD Tryd.underlying23 rfl hzC ?_)
                        | (refine wpList_str rfl 23 _ _ rfl w.heap.size C rfl rfl _ C hD rfl hzC hone ?_; intro w2 hB2 hg2 hz2))
                      exact bodyPost_ret (results_dig1 (p := 2) rfl _ w2 w.heap.size C 32 _ rfl hB2 Tryd.underlying23 hzC) rfl ⟨by rw [HC.out], hb.grown hg2 hb.size (by intro g e; cases e; exact Nat.le_refl _)⟩
        · have hm : ¬ n % 64 = 56 := fun h => hqz (hmod.1 h)
          have hne : ((n : Int) % 64 != 56) = true := by rw [bne_iff_ne]; omega
          have hq1 : q + 1 ≤ Z := by omega
          have HNL := hid hnl
          clear hnl hmod hm hqz
          go_wp2_with (refine wpList_appO _ rfl _ _ 24 rfl (w.heap.size + 2) 5 i0 _ Tryd.underlying24 hi0 hz0 hz1 hz2 rfl A n c _ rfl (hO.alloc _) _ 1 1 0 [0] rfl (Rd.one _ _ _ 0 rfl) (by simp only [maxLen]; omega) (by omega) (by simp; omega) ?_; intro D' c' w4 hO4 hg4)
          have hrow := (hO.alloc (.cells #[.int .u8 0] 5)).row
          have hS4 := (hS.alloc (.cells #[.int .u8 0] 5)).grown hg4 (by intro e; have := hrow _ e.symm; omega)
          have hD4 := (hD.alloc (.cells #[.int .u8 0] 5)).grown hg4 (by intro e; have := hrow _ e.symm; omega)
          have hb4 : Below w.heap.size w w4 := (hb.alloc hb.size (.cells #[.int .u8 0] 5)).grown hg4 (by simp; omega) (fun g e => by have := hrow _ e; omega)
          have hsz4 : w.heap.size + 2 ≤ w4.heap.size := by have := hg4.size; simp at this; omega
          rw [drop_app _ _ _ hkq.out, ← padQ_succ] at hO4
          exact ⟨⟨q + 1, _, _, _, hq1, rfl, hO4, hS4, hD4, hb4, hsz4⟩, by show 1000000 - (n + 1) < 1000000 - n; omega⟩
end Go.Proofs.YtheljogmnalbmaaDoor
