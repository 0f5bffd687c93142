/-
  Plain laws of locks: what may be, taken, freed, how many are ahead. No condition beyond those each theorem names.
-/
import Derived.Test.YtopicgodflhjcaaLockE
namespace Go.Proofs.Ytopicgodflhjcaa
open Go.RowKit

theorem fnd_nodup (l : List Int) (hn : l.Nodup) (i : Nat) (hi : i < l.length) : fnd l l[i] = (i : Int) := by
  unfold fnd
  rw [if_pos (List.getElem_mem hi), hn.idxOf_getElem i hi]
theorem fnd_not (l : List Int) (x : Int) (h : x ∉ l) : fnd l x = -1 := by unfold fnd; rw [if_neg h]
theorem fnd_mem (l : List Int) (x : Int) (h : x ∈ l) : 0 ≤ fnd l x := by unfold fnd; rw [if_pos h]; omega
theorem fnd_neg (l : List Int) (x : Int) : fnd l x < 0 ↔ x ∉ l := by
  by_cases h : x ∈ l
  · have := fnd_mem l x h
    exact ⟨fun h' => by omega, fun h' => absurd h h'⟩
  · exact ⟨fun _ => h, fun _ => by rw [fnd_not l x h]; omega⟩
theorem fnd_snoc (l : List Int) (x y : Int) (h : x ≠ y) : fnd (l ++ [y]) x = fnd l x := by
  by_cases hm : x ∈ l
  · unfold fnd
    rw [if_pos hm, if_pos (List.mem_append_left _ hm), List.idxOf_append, if_pos hm]
  · rw [fnd_not l x hm, fnd_not]
    simp [hm, h]
theorem fnd_cons (l : List Int) (x y : Int) (h : x ≠ y) (hm : x ∈ l) : fnd (y :: l) x = fnd l x + 1 := by
  unfold fnd
  rw [if_pos hm, if_pos (List.mem_cons_of_mem _ hm), List.idxOf_cons, cond_eq_ite, if_neg (by simpa using fun e => h e.symm)]
  omega
theorem upto_all {α : Type} (f : Nat → α) (k : Nat) (p : α → Bool) : (upto f k).all p = true ↔ ∀ i, i < k → p (f i) = true := by
  rw [List.all_eq_true]
  constructor
  · intro h i hi
    exact h _ (mem_upto f k i hi)
  · intro h x hx
    simp only [upto, List.mem_map, List.mem_range] at hx
    obtain ⟨i, hi, rfl⟩ := hx
    exact h i hi
/-- A lock that may be: its tasks are tasks, each once. -/
theorem may_iff (o : Int) (ws : List Int) : mayL o ws = true ↔ (o = 0 → ws = []) ∧ (∀ x ∈ allL o ws, taskB x = true) ∧ (allL o ws).Nodup := by
  unfold mayL
  rw [Bool.and_eq_true, upto_all]
  have h1 : (!(o == 0) || ws.isEmpty) = true ↔ (o = 0 → ws = []) := by
    by_cases ho : o = 0 <;> simp [ho]
  rw [h1]
  refine and_congr_right fun _ => ?_
  constructor
  · intro h
    have hk : ∀ i (hi : i < (allL o ws).length), taskB (allL o ws)[i] = true ∧ fnd (allL o ws) (allL o ws)[i] = (i : Int) := fun i hi => by
      have hn := allL_nth o ws i (by rw [← allL_len]; exact hi)
      rw [List.getElem?_eq_getElem hi, Option.some.injEq] at hn
      have := h i (by rw [← allL_len]; exact hi)
      unfold okNth at this
      rw [← hn, Bool.and_eq_true, beq_iff_eq] at this
      exact this
    refine ⟨fun x hx => ?_, ?_⟩
    · obtain ⟨i, hi, rfl⟩ := List.mem_iff_getElem.1 hx
      exact (hk i hi).1
    · refine List.pairwise_iff_getElem.2 fun i j hi hj hij e => ?_
      have h1 := (hk i hi).2
      have h2 := (hk j hj).2
      rw [e] at h1
      omega
  · rintro ⟨h1, h2⟩ i hi
    have hil : i < (allL o ws).length := by rw [allL_len]; exact hi
    have hn := allL_nth o ws i hi
    rw [List.getElem?_eq_getElem hil, Option.some.injEq] at hn
    unfold okNth
    rw [← hn, Bool.and_eq_true, beq_iff_eq]
    exact ⟨h1 _ (List.getElem_mem hil), fnd_nodup _ h2 i hil⟩
theorem task_pos {x : Int} (h : taskB x = true) : 1 ≤ x ∧ x ≤ 16 := by
  unfold taskB at h
  simpa using h
/-- The error of one that may be. -/
theorem asked_may {o : Int} {ws : List Int} (h : mayL o ws = true) (x : Int) : askedE o ws x = if taskB x then 0 else 2 := by unfold askedE; rw [if_pos h]

section
variable {o : Int} {ws : List Int} {n y : Int}
theorem ahead_may (h : mayL o ws = true) (n : Int) : aheadL o ws n = if taskB n then (if fnd (allL o ws) n < 0 then (0, 2) else (fnd (allL o ws) n, 0)) else (0, 2) := by
  unfold aheadL
  rw [asked_may h]
  cases taskB n <;> simp
/-- What a task takes. -/
theorem take_law (h : mayL o ws = true) (ht : (takeL o ws y).2.2.2 = 0) :
    taskB y = true ∧ y ∉ allL o ws ∧ allL (takeL o ws y).1 (takeL o ws y).2.1 = allL o ws ++ [y] ∧ mayL (takeL o ws y).1 (takeL o ws y).2.1 = true ∧
      (takeL o ws y).2.2.1 = (o == 0) ∧ (takeL o ws y).2.2.1 = ((takeL o ws y).1 == y) ∧ ((takeL o ws y).2.2.1 = false → (takeL o ws y).1 = o) ∧ (takeL o ws y).2.1.length ≤ ws.length + 1 := by
  unfold takeL at ht ⊢
  rw [asked_may h] at ht ⊢
  cases hy : taskB y with
  | false => simp [hy] at ht
  | true =>
    simp only [hy, if_true, ne_eq, not_true_eq_false, if_false] at ht ⊢
    by_cases hf : 0 ≤ fnd (allL o ws) y
    · simp [hf] at ht
    · rw [if_neg hf] at ht ⊢
      have hm : y ∉ allL o ws := (fnd_neg _ _).1 (by omega)
      have hyp := task_pos hy
      obtain ⟨h1, h2, h3⟩ := (may_iff o ws).1 h
      by_cases ho : o = 0
      · rw [if_pos ho]
        obtain rfl := h1 ho
        have hall : allL o [] = [] := by unfold allL; rw [if_pos ho]
        have hally : allL y [] = [y] := by unfold allL; rw [if_neg (by omega)]
        refine ⟨trivial, hm, by simp [hall, hally], (may_iff _ _).2 ⟨fun _ => rfl, by simp [hally, hy], by simp [hally]⟩, by simp [ho], by simp, by simp, by simp⟩
      · rw [if_neg ho]
        have hall : allL o ws = o :: ws := by unfold allL; rw [if_neg ho]
        have hall' : allL o (ws ++ [y]) = o :: (ws ++ [y]) := by unfold allL; rw [if_neg ho]
        have hoy : o ≠ y := fun e => hm (by rw [hall, e]; simp)
        refine ⟨trivial, hm, by simp [hall, hall'], (may_iff _ _).2 ⟨fun e => absurd e ho, ?_, ?_⟩, by simp [ho], by simp [hoy], by simp, by simp⟩
        · rw [hall']
          intro x hx
          rw [hall] at h2
          simp only [List.mem_cons, List.mem_append, List.not_mem_nil, or_false] at hx
          rcases hx with rfl | hx | rfl
          · exact h2 _ (by simp)
          · exact h2 _ (by simp [hx])
          · exact hy
        · rw [hall', ← List.cons_append, ← hall]
          rw [List.nodup_append]
          exact ⟨h3, by simp, fun a ha b hb => by simp at hb; subst hb; exact fun e => hm (e ▸ ha)⟩
theorem take_ahead (h : mayL o ws = true) (ht : (takeL o ws y).2.2.2 = 0) (hn : n ≠ y) : aheadL (takeL o ws y).1 (takeL o ws y).2.1 n = aheadL o ws n := by
  obtain ⟨_, _, h3, h4, _⟩ := take_law h ht
  rw [ahead_may h4, ahead_may h, h3, fnd_snoc _ _ _ hn]
/-- What is freed. -/
theorem free_none (h : mayL o ws = true) (ho : o = 0) : freeL o ws o = (0, [], 0, 2) := by
  unfold freeL
  rw [asked_may h]
  subst ho
  rfl
theorem free_law (h : mayL o ws = true) (ho : o ≠ 0) :
    freeL o ws o = (ws.headD 0, ws.tail, ws.headD 0, 0) ∧ allL (ws.headD 0) ws.tail = ws ∧ mayL (ws.headD 0) ws.tail = true := by
  obtain ⟨h1, h2, h3⟩ := (may_iff o ws).1 h
  have hall : allL o ws = o :: ws := by unfold allL; rw [if_neg ho]
  rw [hall] at h2 h3
  have hao : allL (ws.headD 0) ws.tail = ws := by
    cases ws with
    | nil => rfl
    | cons a l =>
      have ha := task_pos (h2 a (by simp))
      show allL a l = a :: l
      unfold allL
      rw [if_neg (by omega)]
  refine ⟨?_, hao, (may_iff _ _).2 ⟨?_, ?_, ?_⟩⟩
  · unfold freeL
    rw [asked_may h, h2 o (by simp)]
    simp
  · intro e
    cases ws with
    | nil => rfl
    | cons a l =>
      have ha := task_pos (h2 a (by simp))
      simp at e
      omega
  · rw [hao]
    exact fun x hx => h2 x (by simp [hx])
  · rw [hao]
    exact (List.nodup_cons.1 h3).2
/-- Who waits comes nearer. -/
theorem nearer (h : mayL o ws = true) (ho : o ≠ 0) (n : Int) :
    ((aheadL o ws n).2 = 2 ∧ (aheadL (ws.headD 0) ws.tail n).2 = 2) ∨
    ((aheadL o ws n).2 = 0 ∧ (aheadL o ws n).1 = 0 ∧ (aheadL (ws.headD 0) ws.tail n).2 = 2) ∨
    ((aheadL o ws n).2 = 0 ∧ 1 ≤ (aheadL o ws n).1 ∧ (aheadL (ws.headD 0) ws.tail n).2 = 0 ∧ (aheadL (ws.headD 0) ws.tail n).1 = (aheadL o ws n).1 - 1 ∧ ((aheadL o ws n).1 = 1 → ws.headD 0 = n) ∧ (aheadL o ws n).1 ≤ (ws.length : Int)) := by
  obtain ⟨_, hao, hm⟩ := free_law h ho
  obtain ⟨h1, h2, h3⟩ := (may_iff o ws).1 h
  have hall : allL o ws = o :: ws := by unfold allL; rw [if_neg ho]
  rw [hall] at h2 h3
  rw [ahead_may h, ahead_may hm, hao, hall]
  cases ht : taskB n with
  | false => exact .inl ⟨rfl, rfl⟩
  | true =>
    simp only [if_true]
    by_cases hno : n = o
    · subst hno
      have e0 : fnd (n :: ws) n = 0 := by unfold fnd; simp
      have e1 : fnd ws n = -1 := fnd_not _ _ (List.nodup_cons.1 h3).1
      rw [e0, e1]
      exact .inr (.inl ⟨rfl, rfl, rfl⟩)
    · by_cases hw : n ∈ ws
      · have e0 := fnd_cons ws n o hno hw
        have e1 := fnd_mem ws n hw
        rw [e0, if_neg (by omega), if_neg (by omega)]
        refine .inr (.inr ⟨rfl, by show 1 ≤ fnd ws n + 1; omega, rfl, by show fnd ws n = fnd ws n + 1 - 1; omega, fun e => ?_, ?_⟩)
        · have e2 : fnd ws n = 0 := by simp at e; omega
          unfold fnd at e2
          rw [if_pos hw] at e2
          cases ws with
          | nil => cases hw
          | cons a l =>
            have : (a :: l).idxOf n = 0 := by omega
            rw [List.idxOf_cons, cond_eq_ite] at this
            split at this
            · rename_i h'
              simpa using h'
            · omega
        · show fnd ws n + 1 ≤ _
          have hlt : ws.idxOf n < ws.length := List.idxOf_lt_length_iff.2 hw
          unfold fnd
          rw [if_pos hw]
          omega
      · rw [fnd_not ws n hw, fnd_not (o :: ws) n (by simp [hno, hw])]
        exact .inl ⟨rfl, rfl⟩
end
end Go.Proofs.Ytopicgodflhjcaa
