/-
  Contract of the law's stream: told what the flags say, it returns true. No condition beyond those the theorem names.
-/
import Derived.Test.YthcaecccpjdpkaaDoorTapP
namespace Go.Proofs.YthcaecccpjdpkaaDoor
open Go.RowKit
set_option linter.unusedSimpArgs false
set_option linter.unusedVariables false

theorem toks_ok (f : Nat → Bool) : ∀ n, ItsOk (toks f n)
  | 0 => itsOk_nil
  | n + 1 => fun x hx => by
    rw [toks_succ, List.mem_append] at hx
    rcases hx with h | h
    · exact toks_ok f n x h
    · split at h
      · split at h
        · simp at h
        · simp at h; subst h; exact gapIt_ok
      · simp at h; subst h; exact evN_ok _
theorem Rd.boolAt {w : World} {lo n : Nat} {A : Option Addr} {vs : List Bool} (h : Rd w lo 1 A n (vs.map Value.bool)) {k : Nat} {v : Bool} (hk : vs[k]? = some v) : ∃ b o, A = some ⟨b, o, none⟩ ∧ lo ≤ b ∧ w.cell? ⟨b, o + k, none⟩ = some (.bool v) := by
  have hkn : k < vs.length := (List.getElem?_eq_some_iff.1 hk).1
  have h1 := h.1
  rw [List.length_map] at h1
  obtain ⟨b, o, e, hlo, hx⟩ := h.2 (by omega)
  exact ⟨b, o, e, hlo, by rw [hx k (by omega), List.getElem?_map, hk]; rfl⟩
theorem tok_at {f : Nat → Bool} {i n : Nat} (hi : i < n) {x : It} (hx : toks f (i + 1) = toks f i ++ [x]) : (toks f n)[(toks f i).length]? = some x := by
  obtain ⟨r, hr⟩ := toks_more f (i + 1) n hi
  rw [hr, hx, List.append_assoc, List.getElem?_append_right (Nat.le_refl _), Nat.sub_self]
  rfl

set_option maxRecDepth 100000 in
set_option maxHeartbeats 4000000 in
theorem stream_any (A : Option Addr) (m c : Nat) (C : Option Addr) (k d : Nat) (ls : List Bool) (f : Nat → Bool) (n : Nat) (w : World) (hf : ∀ i, i < ls.length → ls[i]? = some (f i)) (hk : n ≤ ls.length) (hn : n ≤ 1000) (hr : Rd w 0 101 A m (itsL (toks f n))) (hl : Rd w 0 1 C k (ls.map Value.bool)) :
    Calls Tryd.prog 12 #[.slice A m c, .slice C k d, .int .i64 n] w fun e w' => e = .returned (.bool true) ∧ Below w.heap.size w w' := by
  have hm := rd_len (toks_ok f n) hr
  have hkl : ls.length = k := by have := hl.1; simpa using this
  have HR := hid hr
  have HL := hid hl
  have HF := hid hf
  have HM := hid hm
  have hm1 := toks_len f n
  have hmz : (m : Int) ≤ 1000 := by omega
  have hkz : (n : Int) ≤ (k : Int) := by omega
  clear hr hl hf hm
  go_enter Tryd.func12, Tryd.ntmps12
  go_wp2_with fail
  go_loopw [7, 8] (fun s7 s8 wx => ∃ i : Nat, i ≤ n ∧ s8 = .int .i64 i ∧ s7 = .int .i64 (toks f i).length ∧ Below w.heap.size w wx) (fun _ s8 _ => n - (intOf s8).toNat)
  case atStart => exact ⟨0, Nat.zero_le _, rfl, rfl, Below.refl _ _⟩
  case round =>
    obtain ⟨i, hi, rfl, rfl, hb⟩ := hrel
    have X0 := hid hb
    have HRw := hid (HR.out.below hb)
    have HLw := hid (HL.out.below hb)
    clear hb
    by_cases hlt : i < n
    · have hti : (i : Int) < (n : Int) := by omega
      have htk : (i : Int) < (k : Int) := by omega
      have htz : (0 : Int) ≤ (i : Int) := by omega
      have hlen := toks_len f i
      obtain ⟨bl, ol, rfl, _, cl⟩ := HLw.out.boolAt (HF.out i (by omega))
      have hS := toks_succ f i
      cases hfi : f i
      · rw [hfi] at hS cl
        simp only [Bool.false_eq_true, if_false] at hS
        have hat := tok_at hlt hS
        obtain ⟨b, o, rfl, _, rx⟩ := HRw.out.item (toks_ok f n) hat
        have c0 : wr.cell? ⟨b, o + (toks f i).length * 101 + 0, none⟩ = some (.bool false) := rx 0 _ rfl
        have c1 : wr.cell? ⟨b, o + (toks f i).length * 101 + 1, none⟩ = some (.int .i64 i) := rx 1 _ rfl
        have hal : (toks f i).length < m := by have := (List.getElem?_eq_some_iff.1 hat).1; have := HM.out; omega
        have hSl : (toks f (i + 1)).length = (toks f i).length + 1 := by rw [hS]; simp
        have HSl := hid hSl
        clear hS hat rx hfi hSl
        generalize (toks f i).length = at_ at *
        rw [Nat.add_zero] at c0
        have hq1 : (at_ : Int) < (m : Int) := by omega
        have hq2 : (0 : Int) ≤ (at_ : Int) := by omega
        have hq3 : ¬ m ≤ at_ := by omega
        obtain ⟨ad, had⟩ : ∃ ad, o + at_ * 101 = ad := ⟨_, rfl⟩
        rw [had] at c0 c1
        go_wp2
        go_quiet (fail)
        go_wp2
        exact ⟨⟨i + 1, by omega, by go_num, by rw [HSl.out]; go_num, below_drew X0.out _⟩, by simp [intOf]; omega⟩
      · rw [hfi] at hS cl
        simp only [if_true] at hS
        rcases Nat.eq_zero_or_pos i with h0 | h0
        · have hi0 : ¬ (0 : Int) < (i : Int) := by omega
          rw [show decide (0 < i) = false by simp; omega] at hS
          simp only [Bool.false_and, Bool.false_eq_true, if_false] at hS
          clear h0
          have hat := tok_at hlt hS
          obtain ⟨b, o, rfl, _, rx⟩ := HRw.out.item (toks_ok f n) hat
          have c0 : wr.cell? ⟨b, o + (toks f i).length * 101 + 0, none⟩ = some (.bool true) := rx 0 _ rfl
          have c1 : wr.cell? ⟨b, o + (toks f i).length * 101 + 1, none⟩ = some (.int .i64 0) := rx 1 _ rfl
          have hal : (toks f i).length < m := by have := (List.getElem?_eq_some_iff.1 hat).1; have := HM.out; omega
          have hSl : (toks f (i + 1)).length = (toks f i).length + 1 := by rw [hS]; simp
          have HSl := hid hSl
          clear hS hat rx hfi hSl
          generalize (toks f i).length = at_ at *
          rw [Nat.add_zero] at c0
          have hq1 : (at_ : Int) < (m : Int) := by omega
          have hq2 : (0 : Int) ≤ (at_ : Int) := by omega
          have hq3 : ¬ m ≤ at_ := by omega
          obtain ⟨ad, had⟩ : ∃ ad, o + at_ * 101 = ad := ⟨_, rfl⟩
          rw [had] at c0 c1
          go_wp2
          go_quiet (fail)
          go_wp2
          exact ⟨⟨i + 1, by omega, by go_num, by rw [HSl.out]; go_num, below_drew X0.out _⟩, by simp [intOf]; omega⟩
        · obtain ⟨j, rfl⟩ : ∃ j, i = j + 1 := ⟨i - 1, by omega⟩
          have hj0 : (0 : Int) < (j : Int) + 1 := by omega
          have hjz : (0 : Int) ≤ (j : Int) := by omega
          have hjk : (j : Int) < (k : Int) := by omega
          obtain ⟨bl', ol', e', _, cl'⟩ := HLw.out.boolAt (HF.out j (by omega))
          cases e'
          rw [show decide (0 < j + 1) = true by simp, Bool.true_and, Nat.add_sub_cancel] at hS
          cases hfj : f j
          · rw [hfj] at hS cl'
            simp only [Bool.false_eq_true, if_false] at hS
            have hat := tok_at hlt hS
            obtain ⟨b, o, rfl, _, rx⟩ := HRw.out.item (toks_ok f n) hat
            have c0 : wr.cell? ⟨b, o + (toks f (j + 1)).length * 101 + 0, none⟩ = some (.bool true) := rx 0 _ rfl
            have c1 : wr.cell? ⟨b, o + (toks f (j + 1)).length * 101 + 1, none⟩ = some (.int .i64 0) := rx 1 _ rfl
            have hal : (toks f (j + 1)).length < m := by have := (List.getElem?_eq_some_iff.1 hat).1; have := HM.out; omega
            have hSl : (toks f ((j + 1) + 1)).length = (toks f (j + 1)).length + 1 := by rw [hS]; simp
            have HSl := hid hSl
            clear hS hat rx hfi hSl
            generalize (toks f (j + 1)).length = at_ at *
            rw [Nat.add_zero] at c0
            have hq1 : (at_ : Int) < (m : Int) := by omega
            have hq2 : (0 : Int) ≤ (at_ : Int) := by omega
            have hq3 : ¬ m ≤ at_ := by omega
            obtain ⟨ad, had⟩ : ∃ ad, o + at_ * 101 = ad := ⟨_, rfl⟩
            rw [had] at c0 c1
            go_wp2
            go_quiet (fail)
            go_wp2
            exact ⟨⟨(j + 1) + 1, by omega, by go_num, by rw [HSl.out]; go_num, below_drew X0.out _⟩, by simp [intOf]; omega⟩
          · rw [hfj] at hS cl'
            simp only [if_true, List.append_nil] at hS
            have HS := hid hS
            clear hS hfi hfj
            generalize hat : (toks f (j + 1)).length = at_ at *
            have HAT := hid hat
            clear hat
            go_wp2
            exact ⟨⟨j + 1 + 1, by omega, by go_num, by rw [HS.out, HAT.out], X0.out⟩, by simp [intOf]; omega⟩
    · obtain rfl : i = n := by omega
      have hti : ¬ (i : Int) < (i : Int) := by omega
      have hat : (toks f i).length = m := HM.out
      rw [hat]
      go_wp2
      go_ret
      exact ⟨ret_b (by simp), X0.out⟩
end Go.Proofs.YthcaecccpjdpkaaDoor
