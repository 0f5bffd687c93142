/-
  The contracts of Put, PutPart, Take, TakePart and End once more, each said in one word for every input: the program's function and the reference's answer the same. Slices of at most 6,000 bytes, all else free.
-/
import Derived.Test.YtffgkjcfffkahaaNumE
namespace Go.Proofs.Ytffgkjcfffkahaa
open Go.RowKit

/-- What Put answers. -/
def putOf (n : Nat) (size : Int) : List UInt8 × Int := if size < 1 ∨ 8 < size then ([], 2) else if 256 ^ size.toNat ≤ n then ([], 4) else (be n size.toNat, 0)
theorem gives_bi_nil {w w' : World} {k : Int} {e : Ending} (he : e = .returned (.tuple #[.slice none 0 0, .int .i64 k])) (hb : Below w.heap.size w w') : GivesBI w 0 [] k e w' := by
  subst he
  exact gives_bi (Own.nil _ _ _ _ _) hb
theorem put_any (n : Nat) (size : Int) (w : World) (hn : n < 18446744073709551616) :
    Calls Try.prog 9 #[.int .u64 n, .int .i64 size] w (GivesBI w (putOf n size).1.length (putOf n size).1 (putOf n size).2) := by
  unfold putOf
  by_cases h : size < 1 ∨ 8 < size
  · rw [if_pos h]
    exact (put_arg n size w h).mono fun e w' ⟨he, hw⟩ => gives_bi_nil he (by rw [← hw]; exact Below.refl _ _)
  · rw [if_neg h]
    obtain ⟨s, rfl⟩ := Int.eq_ofNat_of_zero_le (a := size) (by omega)
    rw [Int.toNat_natCast]
    by_cases h2 : 256 ^ s ≤ n
    · rw [if_pos h2]
      exact (put_over n s w (by omega) (by omega) hn h2).mono fun e w' ⟨he, hw⟩ => gives_bi_nil he (by rw [← hw]; exact Below.refl _ _)
    · rw [if_neg h2]
      show Calls _ _ _ _ (GivesBI w (be n s).length (be n s) 0)
      rw [be_length]
      exact put_ok n s w (by omega) (by omega) (by omega)
theorem refPut_any (n : Nat) (size : Int) (w : World) (hn : n < 18446744073709551616) :
    Calls Try.prog 10 #[.int .u64 n, .int .i64 size] w (GivesBI w (putOf n size).1.length (putOf n size).1 (putOf n size).2) := by
  unfold putOf
  by_cases h : size < 1 ∨ 8 < size
  · rw [if_pos h]
    exact (refPut_arg n size w h).mono fun e w' ⟨he, hw⟩ => gives_bi_nil he (by rw [← hw]; exact Below.refl _ _)
  · rw [if_neg h]
    obtain ⟨s, rfl⟩ := Int.eq_ofNat_of_zero_le (a := size) (by omega)
    rw [Int.toNat_natCast]
    by_cases h2 : 256 ^ s ≤ n
    · rw [if_pos h2]
      exact (refPut_over n s w (by omega) (by omega) hn h2).mono fun e w' ⟨he, hw⟩ => gives_bi_nil he hw
    · rw [if_neg h2]
      show Calls _ _ _ _ (GivesBI w (be n s).length (be n s) 0)
      rw [be_length]
      exact refPut_ok n s w (by omega) (by omega) hn (by omega)

/-- What PutPart answers. -/
def putPartOf (bs : List UInt8) : List UInt8 × Int := if 4096 < bs.length then ([], 4) else (be bs.length 2 ++ bs, 0)
theorem putPart_any (A : Option Addr) (n c lo : Nat) (bs : List UInt8) (w : World) (hr : Rd w lo 1 A n (bs.map bv)) :
    Calls Try.prog 11 #[.slice A n c] w (GivesBI w (putPartOf bs).1.length (putPartOf bs).1 (putPartOf bs).2) := by
  have hl : bs.length = n := by simpa using hr.1
  unfold putPartOf
  by_cases h : 4096 < bs.length
  · rw [if_pos h]
    exact (putPart_over A n c w (by omega)).mono fun e w' ⟨he, hw⟩ => gives_bi_nil he (by rw [← hw]; exact Below.refl _ _)
  · rw [if_neg h]
    show Calls _ _ _ _ (GivesBI w (be bs.length 2 ++ bs).length (be bs.length 2 ++ bs) 0)
    rw [List.length_append, be_length, hl]
    exact putPart_ok A n c lo bs w hr (by omega)
theorem refPutPart_any (A : Option Addr) (n c lo : Nat) (bs : List UInt8) (w : World) (hr : Rd w lo 1 A n (bs.map bv)) :
    Calls Try.prog 12 #[.slice A n c] w (GivesBI w (putPartOf bs).1.length (putPartOf bs).1 (putPartOf bs).2) := by
  have hl : bs.length = n := by simpa using hr.1
  unfold putPartOf
  by_cases h : 4096 < bs.length
  · rw [if_pos h]
    exact (refPutPart_over A n c w (by omega)).mono fun e w' ⟨he, hw⟩ => gives_bi_nil he (by rw [← hw]; exact Below.refl _ _)
  · rw [if_neg h]
    show Calls _ _ _ _ (GivesBI w (be bs.length 2 ++ bs).length (be bs.length 2 ++ bs) 0)
    rw [List.length_append, be_length, hl]
    exact refPutPart_ok A n c lo bs w hr (by omega)

/-- What Take answers. -/
def takeOf (bs : List UInt8) (size : Int) : Nat × List UInt8 × Int := if size < 1 ∨ 8 < size then (0, [], 2) else if bs.length < size.toNat then (0, [], 10) else (val (bs.take size.toNat), bs.drop size.toNat, 0)
theorem gives_nbi_nil {w w' : World} {k : Int} {e : Ending} (he : e = .returned (.tuple #[.int .u64 0, .slice none 0 0, .int .i64 k])) (hb : Below w.heap.size w w') : GivesNBI w 0 0 [] k e w' := by
  subst he
  exact gives_nbi (Own.nil _ _ _ _ _) hb
theorem take_any (A : Option Addr) (n c lo : Nat) (bs : List UInt8) (size : Int) (w : World) (hr : Rd w lo 1 A n (bs.map bv)) (hnc : n ≤ c) (hbig : n ≤ 1000000) :
    Calls Try.prog 17 #[.slice A n c, .int .i64 size] w (GivesNBI w (takeOf bs size).1 (takeOf bs size).2.1.length (takeOf bs size).2.1 (takeOf bs size).2.2) := by
  have hl : bs.length = n := by simpa using hr.1
  unfold takeOf
  by_cases h : size < 1 ∨ 8 < size
  · rw [if_pos h]
    exact (take_arg A n c size w h).mono fun e w' ⟨he, hw⟩ => gives_nbi_nil he (by rw [← hw]; exact Below.refl _ _)
  · rw [if_neg h]
    obtain ⟨s, rfl⟩ := Int.eq_ofNat_of_zero_le (a := size) (by omega)
    rw [Int.toNat_natCast]
    by_cases h2 : bs.length < s
    · rw [if_pos h2]
      exact (take_short A n c s w (by omega) (by omega) (by omega)).mono fun e w' ⟨he, hw⟩ => gives_nbi_nil he (by rw [← hw]; exact Below.refl _ _)
    · rw [if_neg h2]
      show Calls _ _ _ _ (GivesNBI w (val (bs.take s)) (bs.drop s).length (bs.drop s) 0)
      rw [List.length_drop, hl]
      exact take_ok A n c s lo bs w hr (by omega) (by omega) (by omega) hnc hbig
theorem refTake_any (A : Option Addr) (n c lo : Nat) (bs : List UInt8) (size : Int) (w : World) (hr : Rd w lo 1 A n (bs.map bv)) (hnc : n ≤ c) (hbig : n ≤ 1000000) :
    Calls Try.prog 18 #[.slice A n c, .int .i64 size] w (GivesNBI w (takeOf bs size).1 (takeOf bs size).2.1.length (takeOf bs size).2.1 (takeOf bs size).2.2) := by
  have hl : bs.length = n := by simpa using hr.1
  unfold takeOf
  by_cases h : size < 1 ∨ 8 < size
  · rw [if_pos h]
    exact (refTake_arg A n c size w h).mono fun e w' ⟨he, hw⟩ => gives_nbi_nil he (by rw [← hw]; exact Below.refl _ _)
  · rw [if_neg h]
    obtain ⟨s, rfl⟩ := Int.eq_ofNat_of_zero_le (a := size) (by omega)
    rw [Int.toNat_natCast]
    by_cases h2 : bs.length < s
    · rw [if_pos h2]
      exact (refTake_short A n c s w (by omega) (by omega) (by omega)).mono fun e w' ⟨he, hw⟩ => gives_nbi_nil he (by rw [← hw]; exact Below.refl _ _)
    · rw [if_neg h2]
      show Calls _ _ _ _ (GivesNBI w (val (bs.take s)) (bs.drop s).length (bs.drop s) 0)
      rw [List.length_drop, hl]
      exact refTake_ok A n c s lo bs w hr (by omega) (by omega) (by omega) hnc hbig

/-- What TakePart answers, of a text: the part, the rest, the error. -/
def takePartOf (bs : List UInt8) : List UInt8 × List UInt8 × Int :=
  if bs.length < 2 then ([], [], 10)
  else if 4096 < val (bs.take 2) then ([], [], 4)
  else if bs.length - 2 < val (bs.take 2) then ([], [], 10)
  else ((bs.drop 2).take (val (bs.take 2)), bs.drop (2 + val (bs.take 2)), 0)
theorem gives_bbi_nil {w w' : World} {k : Int} {e : Ending} (he : e = .returned (.tuple #[.slice none 0 0, .slice none 0 0, .int .i64 k])) (hb : Below w.heap.size w w') : GivesBBI w 0 0 [] [] k e w' := by
  subst he
  exact gives_bbi (Rd.nil _ _ _ _) (In.zero _ _ _) (Rd.nil _ _ _ _) (In.zero _ _ _) hb
theorem takePart_any (A : Option Addr) (n c lo : Nat) (bs : List UInt8) (w : World) (hr : Rd w lo 1 A n (bs.map bv)) (hnc : n ≤ c) (hbig : n ≤ 1000000) :
    Calls Try.prog 19 #[.slice A n c] w (GivesBBI w (takePartOf bs).1.length (takePartOf bs).2.1.length (takePartOf bs).1 (takePartOf bs).2.1 (takePartOf bs).2.2) := by
  have hl : bs.length = n := by simpa using hr.1
  unfold takePartOf
  by_cases h : bs.length < 2
  · rw [if_pos h]
    exact (takePart_short A n c w (by omega)).mono fun e w' ⟨he, hw⟩ => gives_bbi_nil he (by rw [← hw]; exact Below.refl _ _)
  rw [if_neg h]
  by_cases h2 : 4096 < val (bs.take 2)
  · rw [if_pos h2]
    exact (takePart_many A n c lo bs w hr (by omega) hnc hbig h2).mono fun e w' ⟨he, hw⟩ => gives_bbi_nil he hw
  rw [if_neg h2]
  by_cases h3 : bs.length - 2 < val (bs.take 2)
  · rw [if_pos h3]
    exact (takePart_less A n c lo bs w hr (by omega) hnc hbig (by omega) (by omega)).mono fun e w' ⟨he, hw⟩ => gives_bbi_nil he hw
  rw [if_neg h3]
  generalize hq : val (bs.take 2) = q at *
  show Calls _ _ _ _ (GivesBBI w ((bs.drop 2).take q).length (bs.drop (2 + q)).length ((bs.drop 2).take q) (bs.drop (2 + q)) 0)
  rw [List.length_take, List.length_drop, List.length_drop, hl, show min q (n - 2) = q by omega, show n - (2 + q) = n - 2 - q by omega]
  exact takePart_ok A n c lo bs w hr (by omega) hnc hbig q hq (by omega) (by omega)
theorem refTakePart_any (A : Option Addr) (n c lo : Nat) (bs : List UInt8) (w : World) (hr : Rd w lo 1 A n (bs.map bv)) (hnc : n ≤ c) (hbig : n ≤ 1000000) :
    Calls Try.prog 20 #[.slice A n c] w (GivesBBI w (takePartOf bs).1.length (takePartOf bs).2.1.length (takePartOf bs).1 (takePartOf bs).2.1 (takePartOf bs).2.2) := by
  have hl : bs.length = n := by simpa using hr.1
  unfold takePartOf
  by_cases h : bs.length < 2
  · rw [if_pos h]
    exact (refTakePart_short A n c w (by omega)).mono fun e w' ⟨he, hw⟩ => gives_bbi_nil he (by rw [← hw]; exact Below.refl _ _)
  rw [if_neg h]
  by_cases h2 : 4096 < val (bs.take 2)
  · rw [if_pos h2]
    exact (refTakePart_many A n c lo bs w hr (by omega) hnc _ rfl h2).mono fun e w' ⟨he, hw⟩ => gives_bbi_nil he (by rw [← hw]; exact Below.refl _ _)
  rw [if_neg h2]
  by_cases h3 : bs.length - 2 < val (bs.take 2)
  · rw [if_pos h3]
    exact (refTakePart_less A n c lo bs w hr (by omega) hnc hbig _ rfl (by omega) (by omega)).mono fun e w' ⟨he, hw⟩ => gives_bbi_nil he (by rw [← hw]; exact Below.refl _ _)
  rw [if_neg h3]
  generalize hq : val (bs.take 2) = q at *
  show Calls _ _ _ _ (GivesBBI w ((bs.drop 2).take q).length (bs.drop (2 + q)).length ((bs.drop 2).take q) (bs.drop (2 + q)) 0)
  rw [List.length_take, List.length_drop, List.length_drop, hl, show min q (n - 2) = q by omega, show n - (2 + q) = n - 2 - q by omega]
  exact refTakePart_ok A n c lo bs w hr (by omega) hnc hbig q hq (by omega) (by omega)

/-- What a walk is told of a slice of integers that came in: it is nil; or it leads to a row of 'cap' cells. -/
def IsRow (k : IntKind) (w : World) (a : Option Addr) (len cap : Nat) (zs : List Int) : Prop :=
  (a = none ∧ len = 0 ∧ cap = 0 ∧ zs = []) ∨
  ∃ x, a = some x ∧ len ≤ cap ∧ cap ≤ maxLen ∧ zs.length = cap ∧ (∀ i, i < zs.length → w.cell? (x.add i) = some (.int k (zs.getD i 0))) ∧ ∀ n ∈ zs, (Lit.int k n).wf = true
theorem byte_wf {x : Int} (h : (Lit.int .u8 x).wf = true) : 0 ≤ x ∧ x < 256 := by
  simp [Lit.wf, IntKind.min, IntKind.max, IntKind.signed, IntKind.bits] at h
  exact ⟨by omega, by omega⟩
theorem isRow_rd {w : World} {a : Option Addr} {len cap : Nat} {zs : List Int} (h : IsRow .u8 w a len cap zs) : len ≤ cap ∧ ∃ bs : List UInt8, Rd w 0 1 a len (bs.map bv) := by
  rcases h with ⟨rfl, rfl, rfl, rfl⟩ | ⟨x, rfl, hl, hm, hz, hc, hw⟩
  · exact ⟨Nat.le_refl _, [], Rd.nil _ _ _ _⟩
  · refine ⟨hl, (zs.take len).map fun z => UInt8.ofNat z.toNat, ?_, fun hn => ?_⟩
    · simp
      omega
    · have h0 := hc 0 (by omega)
      obtain ⟨b, o, spot⟩ := x
      have hs : spot = none := by simpa [Addr.add] using World.cell?_spot h0
      subst hs
      refine ⟨b, o, rfl, Nat.zero_le _, fun j hj => ?_⟩
      have hjz : j < zs.length := by omega
      have hcj := hc j hjz
      rw [add_lit] at hcj
      have hwj := byte_wf (hw zs[j] (List.getElem_mem hjz))
      rw [hcj]
      have hjl : j < len := by omega
      simp only [List.getElem?_map, List.getElem?_take, if_pos hjl, List.getElem?_eq_getElem hjz, Option.map_some, List.getD, Option.getD_some]
      rw [← byte_of _ hwj.1 hwj.2]
theorem u64_wf {x : Int} (h : (Lit.int .u64 x).wf = true) : ∃ n : Nat, x = n ∧ n < 18446744073709551616 := by
  simp [Lit.wf, IntKind.min, IntKind.max, IntKind.signed, IntKind.bits] at h
  exact ⟨x.toNat, by omega, by omega⟩
end Go.Proofs.Ytffgkjcfffkahaa
