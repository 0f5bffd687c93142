/-
  The contract of the law's 'alive': the chapter's first examples hold, the table k standing in its variable; and the digests of the chapter's examples, reckoned.
-/
import Derived.Test.YtpmmgknehmkjlaaDoorTellsW
import Derived.Test.YtpmmgknehmkjlaaDoorShaC
import Derived.Lib.SlBytesConst
namespace Go.Proofs.YtpmmgknehmkjlaaDoor
open Go.RowKit

set_option maxRecDepth 1000000
def digNil : List UInt8 := [227, 176, 196, 66, 152, 252, 28, 20, 154, 251, 244, 200, 153, 111, 185, 36, 39, 174, 65, 228, 100, 155, 147, 76, 164, 149, 153, 27, 120, 82, 184, 85]
theorem shaNil : shaOf [] = digNil := by decide +kernel
theorem hexNil : (hexOf digNil).toArray = #[101, 51, 98, 48, 99, 52, 52, 50, 57, 56, 102, 99, 49, 99, 49, 52, 57, 97, 102, 98, 102, 52, 99, 56, 57, 57, 54, 102, 98, 57, 50, 52, 50, 55, 97, 101, 52, 49, 101, 52, 54, 52, 57, 98, 57, 51, 52, 99, 97, 52, 57, 53, 57, 57, 49, 98, 55, 56, 53, 50, 98, 56, 53, 53] := by decide +kernel
def digAbc : List UInt8 := [186, 120, 22, 191, 143, 1, 207, 234, 65, 65, 64, 222, 93, 174, 34, 35, 176, 3, 97, 163, 150, 23, 122, 156, 180, 16, 255, 97, 242, 0, 21, 173]
theorem shaAbc : shaOf [97, 98, 99] = digAbc := by decide +kernel
theorem hexAbc : (hexOf digAbc).toArray = #[98, 97, 55, 56, 49, 54, 98, 102, 56, 102, 48, 49, 99, 102, 101, 97, 52, 49, 52, 49, 52, 48, 100, 101, 53, 100, 97, 101, 50, 50, 50, 51, 98, 48, 48, 51, 54, 49, 97, 51, 57, 54, 49, 55, 55, 97, 57, 99, 98, 52, 49, 48, 102, 102, 54, 49, 102, 50, 48, 48, 49, 53, 97, 100] := by decide +kernel
def digLong : List UInt8 := [36, 141, 106, 97, 210, 6, 56, 184, 229, 192, 38, 147, 12, 62, 96, 57, 163, 60, 228, 89, 100, 255, 33, 103, 246, 236, 237, 212, 25, 219, 6, 193]
theorem shaLong : shaOf [97, 98, 99, 100, 98, 99, 100, 101, 99, 100, 101, 102, 100, 101, 102, 103, 101, 102, 103, 104, 102, 103, 104, 105, 103, 104, 105, 106, 104, 105, 106, 107, 105, 106, 107, 108, 106, 107, 108, 109, 107, 108, 109, 110, 108, 109, 110, 111, 109, 110, 111, 112, 110, 111, 112, 113] = digLong := by decide +kernel
theorem hexLong : (hexOf digLong).toArray = #[50, 52, 56, 100, 54, 97, 54, 49, 100, 50, 48, 54, 51, 56, 98, 56, 101, 53, 99, 48, 50, 54, 57, 51, 48, 99, 51, 101, 54, 48, 51, 57, 97, 51, 51, 99, 101, 52, 53, 57, 54, 52, 102, 102, 50, 49, 54, 55, 102, 54, 101, 99, 101, 100, 100, 52, 49, 57, 100, 98, 48, 54, 99, 49] := by decide +kernel

theorem of_call (P : Option Addr) (np pc : Nat) (pss : List (List UInt8)) (M : List UInt8) (hM : pss.flatten = M) (W : World) (hP : Parts W P np pss) (hlen : M.length ≤ 100000) (hnp : np ≤ 100000) (hK : KOk W) :
    Calls Tryd.prog 8 #[.slice P np pc] W fun e w' => e = .returned (.agg ((shaOf M).map bv).toArray) ∧ Below W.heap.size W w' := of_any P np pc pss M hM _ rfl W hP hlen hnp hK
theorem Parts.nil (w : World) : Parts w none 0 [] := ⟨rfl, fun i h => by omega⟩
theorem Parts.one (w : World) (e : TypeId) (A : Option Addr) (n c : Nat) (xs : List UInt8) (h1 : Rd w 0 1 A n (xs.map bv)) : Parts (w.alloc (.cells #[.slice A n c] e)) (some ⟨w.heap.size, 0, none⟩) 1 [xs] :=
  Parts.lit w e [.slice A n c] [xs] rfl fun i hi => by
    match i, hi with
    | 0, _ => exact ⟨A, n, c, rfl, h1⟩
theorem Rd.bytes {w : World} (n : Nat) (cs : Array Value) (bs : List UInt8) (hl : bs.length = n) (e : (bs.map bv).toArray = cs) : Rd (w.alloc (.cells cs 5)) 0 1 (some ⟨w.heap.size, 0, none⟩) n (bs.map bv) := by
  subst e
  exact (Rd.lit w _ n _ (by simpa using hl)).low (Nat.zero_le _)
/-- '[]byte("..")': the row bears the run-time's mark. -/
theorem Rd.marked (w : World) (fr : Nat × Nat) (n : Nat) (cs : Array Value) (bs : List UInt8) (hl : bs.length = n) (e : (bs.map bv).toArray = cs) : Rd (w.alloc (.cells cs 5 fr)) 0 1 (some ⟨w.heap.size, 0, none⟩) n (bs.map bv) := by
  subst e
  refine ⟨by simp [hl], fun _ => ⟨w.heap.size, 0, rfl, Nat.zero_le _, fun j _ => ?_⟩⟩
  rw [Nat.zero_add, cell_of_row _ _ _ _ _ fr (heap_alloc_new w _)]
  simp
theorem Parts.cast {w : World} {g g' np : Nat} {pss : List (List UInt8)} (h : Parts w (some ⟨g', 0, none⟩) np pss) (e : g' = g) : Parts w (some ⟨g, 0, none⟩) np pss := e ▸ h
theorem KOk.al {w : World} (h : KOk w) (o : Obj) : KOk (w.alloc o) := h.below (below_alloc1 w o)

set_option maxHeartbeats 1000000 in
theorem alive_any (w : World) (hK : KOk w) : Calls Tryd.prog 12 #[] w fun e w' => e = .returned (.bool true) ∧ Below w.heap.size w w' := by
  have hO1 := hid (of_call none 0 0 [] [] rfl w (Parts.nil w) (by decide) (by decide) hK)
  rw [shaNil] at hO1
  have hH1 := hid (fun W => hex_any digNil _ rfl rfl W)
  rw [hexNil] at hH1
  have hO2 := hid (fun W P (h : Parts W P 1 [[97, 98, 99]]) (k : KOk W) => of_call P 1 1 [[97, 98, 99]] [97, 98, 99] rfl W h (by decide) (by decide) k)
  rw [shaAbc] at hO2
  have hH2 := hid (fun W => hex_any digAbc _ rfl rfl W)
  rw [hexAbc] at hH2
  generalize (digNil.map bv).toArray = C1 at *
  generalize (digAbc.map bv).toArray = C2 at *
  have kc := fun (w : World) (C : Array Value) (n c : Nat) => Lib.run_convert_bytes_const (P := Tryd.prog) w 22 5 C n c Tryd.underlying22 Tryd.underlying5
  go_enter Tryd.func12, Tryd.ntmps12
  go_wp2_with fail
  (with_reducible refine hO1.out.mono ?_); rintro e w1 ⟨rfl, hb1⟩
  have hK1 := hK.below hb1
  go_wp2_with fail
  (with_reducible refine (hH1.out w1).mono ?_); rintro e w2 ⟨rfl, hb2⟩
  have hK2 := hK1.below hb2
  have hb02 := below_step hb1 hb2
  go_wp2_with fail
  have hr := Rd.marked w2 (3, 4) 3 #[.int .u8 97, .int .u8 98, .int .u8 99] [97, 98, 99] rfl rfl
  (with_reducible refine (hO2.out _ _ ((Parts.one _ _ _ 3 3 [97, 98, 99] hr).cast (g := w2.heap.size + 1) (by simp)) ((hK2.al _).al _)).mono ?_); rintro e w3 ⟨rfl, hb3⟩
  have hb23 := below_al (below_al hb3)
  go_wp2_with fail
  (with_reducible refine (hH2.out w3).mono ?_); rintro e w4 ⟨rfl, hb4⟩
  go_wp2_with fail
  go_ret
  exact ⟨rfl, below_step hb02 (below_step hb23 hb4)⟩
end Go.Proofs.YtpmmgknehmkjlaaDoor
