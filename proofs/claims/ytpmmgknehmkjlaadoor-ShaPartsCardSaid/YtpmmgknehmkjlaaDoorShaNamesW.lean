/-
  The walk of the law ShaNames: it returns true and writes nothing that was there, the table k standing in its variable.
-/
import Derived.Test.YtpmmgknehmkjlaaDoorAliveS
namespace Go.Proofs.YtpmmgknehmkjlaaDoor
open Go.RowKit

theorem readOf_len (l : List UInt8) : (readOf l).1.length = 32 := by
  unfold readOf
  split
  · exact rdL_len _ _
  · simp
theorem read_any (s : ByteArray) (w : World) : Calls Tryd.prog 13 #[.string s] w (GivesDI w (readOf s.data.toList).1 (readOf s.data.toList).2) := by
  by_cases h : s.size = 64
  · exact read_64 s w h
  · have : readOf s.data.toList = (List.replicate 32 0, 2) := by
      unfold readOf okHex
      have : (s.data.toList.length == 64) = false := by
        rw [beq_eq_false_iff_ne]
        simpa using h
      rw [this]
      rfl
    rw [this]
    exact read_long s w h
theorem Rd.cast {w : World} {lo sz n g g' : Nat} {xs : List Value} (h : Rd w lo sz (some ⟨g', 0, none⟩) n xs) (e : g' = g) : Rd w lo sz (some ⟨g, 0, none⟩) n xs := e ▸ h
theorem conv_second (w : World) (o : Obj) (C : Array Value) (n c : Nat) : (convert 22 22 (.slice (some ⟨w.heap.size + 1, 0, none⟩) n c)).run Tryd.prog ((w.alloc o).alloc (.cells C 5)) = .ok (.slice (some ⟨w.heap.size + 1, 0, none⟩) n c) ((w.alloc o).alloc (.cells C 5 (C.size, C.size + 1))) := by
  have h := Lib.run_convert_bytes_const (P := Tryd.prog) (w.alloc o) 22 5 C n c Tryd.underlying22 Tryd.underlying5
  rw [show (w.alloc o).heap.size = w.heap.size + 1 by simp] at h
  exact h
section
variable {P : Program}
/-- A whole array read, at a guarded operation. -/
theorem wpList_ldr_g {ops : Array Oper} {rest : List Oper} {o : Oper} {a : Act} {w : World} {Q : Exit → Act → World → Prop} (hgd : Region.wanted o (yielded ops a.tmps) = true) (ty : TypeId) (x : Operand) (ho : o.op = .load ty x)
    (g : Nat) (hx : a.eval x = .pointer (some ⟨g, 0, none⟩)) (t : TypeId) (cs : Array Value) (d : TypeDesc) (hg : Blk w g t cs)
    (hu : P.underlying ty = some d) (hd : (match d with | .struct _ | .array _ _ => true | _ => false) = true) (hi : (P.info? ty).map (·.size) = some cs.size)
    (h : wpList P ops Q rest (a.put o.dst (.agg cs)) w) : wpList P ops Q (o :: rest) a w := by
  refine wpList_step fun K hK => ?_
  rw [if_pos hgd]
  exact wp_load_row ty x ho g hx t cs (0, 0) d hg hu hd hi (hK _ _ h)
end
def badHex : List UInt8 := [69, 51, 98, 48, 99, 52, 52, 50, 57, 56, 102, 99, 49, 99, 49, 52, 57, 97, 102, 98, 102, 52, 99, 56, 57, 57, 54, 102, 98, 57, 50, 52, 50, 55, 97, 101, 52, 49, 101, 52, 54, 52, 57, 98, 57, 51, 52, 99, 97, 52, 57, 53, 57, 57, 49, 98, 55, 56, 53, 50, 98, 56, 53, 53]
theorem readBad : readOf badHex = (List.replicate 32 0, 2) := by decide +kernel
theorem readNil : readOf [] = (List.replicate 32 0, 2) := by decide +kernel

set_option maxRecDepth 100000 in
set_option maxHeartbeats 4000000 in
theorem shaNames_walk (w : World) (hK : KOk w) : Calls Tryd.prog 5 #[] w fun e w' => e = .returned (.bool true) ∧ Below w.heap.size w w' := by
  have hO1 := hid (fun W P (h : Parts W P 1 [[97, 98, 99, 100, 98, 99, 100, 101, 99, 100, 101, 102, 100, 101, 102, 103, 101, 102, 103, 104, 102, 103, 104, 105, 103, 104, 105, 106, 104, 105, 106, 107, 105, 106, 107, 108, 106, 107, 108, 109, 107, 108, 109, 110, 108, 109, 110, 111, 109, 110, 111, 112, 110, 111, 112, 113]]) (k : KOk W) => of_call P 1 1 _ [97, 98, 99, 100, 98, 99, 100, 101, 99, 100, 101, 102, 100, 101, 102, 103, 101, 102, 103, 104, 102, 103, 104, 105, 103, 104, 105, 106, 104, 105, 106, 107, 105, 106, 107, 108, 106, 107, 108, 109, 107, 108, 109, 110, 108, 109, 110, 111, 109, 110, 111, 112, 110, 111, 112, 113] rfl W h (by decide) (by decide) k)
  rw [shaLong] at hO1
  have hH1 := hid (fun W => hex_any digLong _ rfl rfl W)
  rw [hexLong] at hH1
  have hO2 := hid (fun W P (h : Parts W P 2 [[97], [98, 99]]) (k : KOk W) => of_call P 2 2 [[97], [98, 99]] [97, 98, 99] rfl W h (by decide) (by decide) k)
  rw [shaAbc] at hO2
  have hO3 := hid (fun W P (h : Parts W P 1 [[97, 98, 99]]) (k : KOk W) => of_call P 1 1 [[97, 98, 99]] [97, 98, 99] rfl W h (by decide) (by decide) k)
  rw [shaAbc] at hO3
  have hR1 := hid (fun W => read_any ⟨#[]⟩ W)
  have hR2 := hid (fun W => read_any ⟨badHex.toArray⟩ W)
  have e1 : readOf ((⟨#[]⟩ : ByteArray).data.toList) = (List.replicate 32 0, 2) := readNil
  have e2 : readOf ((⟨badHex.toArray⟩ : ByteArray).data.toList) = (List.replicate 32 0, 2) := readBad
  rw [e1] at hR1
  rw [e2] at hR2
  unfold GivesDI at hR1 hR2
  simp only [badHex] at hR2
  clear e1 e2
  have HE := run_eq_dig digAbc digAbc rfl rfl
  have hz1 := digS digLong rfl
  have hz3 := digS (List.replicate 32 0) rfl
  have ho1 := oneBv' digLong
  have ho3 := oneBv' (List.replicate 32 0)
  have hs1 : ((digLong.map bv).toArray).size = zeroD.size := rfl
  have hs3 : (((List.replicate 32 (0 : UInt8)).map bv).toArray).size = zeroD.size := rfl
  generalize (digLong.map bv).toArray = C1 at *
  generalize (digAbc.map bv).toArray = C2 at *
  generalize hC3 : ((List.replicate 32 (0 : UInt8)).map bv).toArray = C3 at *
  have kc := fun (w : World) (C : Array Value) (n c : Nat) => Lib.run_convert_bytes_const (P := Tryd.prog) w 22 5 C n c Tryd.underlying22 Tryd.underlying5
  clear hC3
  have kd := conv_second
  go_enter Tryd.func5, Tryd.ntmps5
  go_wp2_with fail
  (with_reducible refine (hO1.out _ _ ((Parts.one _ _ _ 56 56 _ (Rd.marked w (56, 57) 56 #[.int .u8 97, .int .u8 98, .int .u8 99, .int .u8 100, .int .u8 98, .int .u8 99, .int .u8 100, .int .u8 101, .int .u8 99, .int .u8 100, .int .u8 101, .int .u8 102, .int .u8 100, .int .u8 101, .int .u8 102, .int .u8 103, .int .u8 101, .int .u8 102, .int .u8 103, .int .u8 104, .int .u8 102, .int .u8 103, .int .u8 104, .int .u8 105, .int .u8 103, .int .u8 104, .int .u8 105, .int .u8 106, .int .u8 104, .int .u8 105, .int .u8 106, .int .u8 107, .int .u8 105, .int .u8 106, .int .u8 107, .int .u8 108, .int .u8 106, .int .u8 107, .int .u8 108, .int .u8 109, .int .u8 107, .int .u8 108, .int .u8 109, .int .u8 110, .int .u8 108, .int .u8 109, .int .u8 110, .int .u8 111, .int .u8 109, .int .u8 110, .int .u8 111, .int .u8 112, .int .u8 110, .int .u8 111, .int .u8 112, .int .u8 113] [97, 98, 99, 100, 98, 99, 100, 101, 99, 100, 101, 102, 100, 101, 102, 103, 101, 102, 103, 104, 102, 103, 104, 105, 103, 104, 105, 106, 104, 105, 106, 107, 105, 106, 107, 108, 106, 107, 108, 109, 107, 108, 109, 110, 108, 109, 110, 111, 109, 110, 111, 112, 110, 111, 112, 113] rfl rfl)).cast (g := w.heap.size + 1) (by simp)) ((hK.al _).al _)).mono ?_); rintro e w1 ⟨rfl, hb1'⟩
  have hb1 := below_al (below_al hb1')
  clear hb1'
  go_wp2_with (first
    | (refine wpList_al rfl 25 rfl zeroD (zeroD_run _) ?_; intro w2 hA2 hb2 hz2)
    | (refine wpList_str rfl 25 _ _ rfl w1.heap.size C1 rfl rfl _ zeroD hA2 hs1 zeroD_size ho1 ?_; intro w3 hA3 hg3 hy3))
  have hb3 := hb2.grown hg3 hb2.size (by intro g e; cases e; exact Nat.le_refl _)
  have hb03 := below_step hb1 hb3
  clear hA2 hg3 hb2 hz2 hy3 hb1 hb3
  (with_reducible refine (hR1.out w3).mono ?_); rintro e w4 ⟨rfl, hb4⟩
  have hA4 := hA3.belowS hb4
  go_wp2_with (first
    | (refine wpList_al rfl 25 rfl zeroD (zeroD_run _) ?_; intro w5 hB5 hb5 hz5)
    | (refine wpList_str rfl 25 _ _ rfl w4.heap.size C3 rfl rfl _ zeroD hB5 hs3 zeroD_size ho3 ?_; intro w6 hB6 hg6 hy6))
  have hb6 := hb5.grown hg6 hb5.size (by intro g e; cases e; exact Nat.le_refl _)
  have hA6 := hA4.belowS hb6
  have hb06 := below_step hb03 (below_step hb4 hb6)
  clear hA4 hB5 hg6 hb5 hz5 hy6 hb4 hb6 hb03 hB6
  (with_reducible refine (hR2.out w6).mono ?_); rintro e w7 ⟨rfl, hb7⟩
  have hA7 := hA6.belowS hb7
  go_wp2_with (first
    | (refine wpList_al rfl 25 rfl zeroD (zeroD_run _) ?_; intro w8 hC8 hb8 hz8)
    | (refine wpList_str rfl 25 _ _ rfl w7.heap.size C3 rfl rfl _ zeroD hC8 hs3 zeroD_size ho3 ?_; intro w9 hC9 hg9 hy9))
  have hb9 := hb8.grown hg9 hb8.size (by intro g e; cases e; exact Nat.le_refl _)
  have hA9 := hA7.belowS hb9
  have hb09 := below_step hb06 (below_step hb7 hb9)
  clear hA6 hA7 hC8 hg9 hb8 hz8 hy9 hb7 hb9 hb06 hC9 hA3
  (with_reducible refine (alive_any w9 (hK.below hb09)).mono ?_); rintro e x1 ⟨rfl, hx1⟩
  have hA := hA9.belowS hx1
  have hbx1 := below_step hb09 hx1
  have hKx := hK.below hbx1
  clear hA9 hx1 hb09
  go_wp2_with (refine wpList_ldr_g (by rfl) 25 _ rfl w1.heap.size rfl _ C1 _ hA Tryd.underlying25 rfl hz1 ?_)
  (with_reducible refine (hH1.out x1).mono ?_); rintro e x2 ⟨rfl, hx2⟩
  have hK2 := hKx.below hx2
  have hbx2 := below_step hbx1 hx2
  clear hA hbx1 hx2 hKx
  go_wp2_with fail
  have r1 := (Rd.marked x2 (1, 2) 1 #[.int .u8 97] [97] rfl rfl).alloc (.cells #[.int .u8 98, .int .u8 99] 5 (2, 3))
  have r2 := (Rd.marked (x2.alloc (.cells #[.int .u8 97] 5 (1, 2))) (2, 3) 2 #[.int .u8 98, .int .u8 99] [98, 99] rfl rfl).cast (g := x2.heap.size + 1) (by simp)
  (with_reducible refine (hO2.out _ _ ((Parts.two _ _ _ _ 1 2 1 2 _ _ r1 r2).cast (g := x2.heap.size + 2) (by simp)) (((hK2.al _).al _).al _)).mono ?_); rintro e x3 ⟨rfl, hx3'⟩
  have hx3 := below_al (below_al (below_al hx3'))
  have hK3 := hK2.below hx3
  have hbx3 := below_step hbx2 hx3
  clear r1 r2 hx3' hx3 hK2 hbx2
  go_wp2_with fail
  (with_reducible refine (hO3.out _ _ ((Parts.one _ _ _ 3 3 _ (Rd.marked x3 (3, 4) 3 #[.int .u8 97, .int .u8 98, .int .u8 99] [97, 98, 99] rfl rfl)).cast (g := x3.heap.size + 1) (by simp)) ((hK3.al _).al _)).mono ?_); rintro e x4 ⟨rfl, hx4'⟩
  have hx4 := below_al (below_al hx4')
  have hbx4 := below_step hbx3 hx4
  clear hx4' hx4 hK3 hbx3
  go_wp2_with fail
  go_ret
  exact ⟨rfl, hbx4⟩
namespace shaNames
theorem shaNames_law {w : World} (hK : KOk w) : Calls Tryd.prog 5 #[] w fun e w' => e = .returned (.bool true) ∧ Below w.heap.size w w' := shaNames_walk w hK
end shaNames
end Go.Proofs.YtpmmgknehmkjlaaDoor
