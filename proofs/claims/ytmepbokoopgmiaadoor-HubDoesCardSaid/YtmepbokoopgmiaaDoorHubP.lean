/-
  The hub's law in plain words: who joins, leaves, polls, is told; that what one subscriber is told hangs on no other one; and who is told. No condition beyond those each theorem names.
-/
import Derived.Test.YtmepbokoopgmiaaDoorHubK
namespace Go.Proofs.YtmepbokoopgmiaaDoor
set_option linter.unusedSimpArgs false

/-- A subscriber: its number, from which view on, its items, whether any are lost. -/
abbrev Sub := Int × Int × List It × Bool
/-- A hub: how many there were, who they are. -/
abbrev Hub := Int × List Sub
def zeroHub : Hub := (0, [])
def isNum (n : Int) : Bool := decide (0 ≤ n) && decide (n < 1073741824)
def subMay (next last : Int) (s : Sub) : Bool := decide (last < s.1) && (decide (s.1 < next) && (isNum s.2.1 && itsMay s.2.2.1))
def subsMay (next : Int) : Int → List Sub → Bool
  | _, [] => true
  | last, s :: l => subMay next last s && subsMay next s.1 l
def hubMay (h : Hub) : Bool := isNum h.1 && (decide (h.2.length ≤ 16) && subsMay h.1 (-1) h.2)
def place (id : Int) (l : List Sub) : Nat := l.findIdx (fun s => s.1 == id)
def joinT (h : Hub) (most fr : Int) : Hub × Int × Int :=
  if hubMay h then
    if 1 ≤ most ∧ most ≤ 16 ∧ isNum fr = true then
      if (h.2.length : Int) < most ∧ isNum (h.1 + 1) = true then ((h.1 + 1, h.2 ++ [(h.1, fr, [], false)]), h.1, 0) else (zeroHub, 0, 9)
    else (zeroHub, 0, 2)
  else (zeroHub, 0, 8)
def leaveT (h : Hub) (id : Int) : Hub × Int :=
  if hubMay h then
    if place id h.2 < h.2.length then ((h.1, h.2.eraseIdx (place id h.2)), 0) else (zeroHub, 2)
  else (zeroHub, 8)
def pollST (s : Sub) : Sub × It × Int := let p := pollT s.2.2.1 s.2.2.2; ((s.1, s.2.1, p.1, p.2.1), p.2.2.1, p.2.2.2)
def pollHT (h : Hub) (id : Int) : Hub × It × Int :=
  if hubMay h then
    match h.2[place id h.2]? with
    | some s => if (pollST s).2.2 = 0 then ((h.1, h.2.set (place id h.2) (pollST s).1), (pollST s).2.1, 0) else (zeroHub, (pollST s).2.1, (pollST s).2.2)
    | none => (zeroHub, zeroIt, 2)
  else (zeroHub, zeroIt, 8)
def tellST (room : Int) (e : Ev) (s : Sub) : Sub := if s.2.1 < e.1 then (s.1, s.2.1, (pushT s.2.2.1 s.2.2.2 room e).1, (pushT s.2.2.1 s.2.2.2 room e).2.1) else s
def tellT (h : Hub) (room : Int) (e : Ev) : Hub × Int :=
  if hubMay h then
    if (pushT [] false room e).2.2 = 0 then ((h.1, h.2.map (tellST room e)), 0) else (zeroHub, (pushT [] false room e).2.2)
  else (zeroHub, 8)
def findT (l : List Sub) (id : Int) : Option Sub := l.find? (fun s => s.1 == id)
/-- The tap alone. -/
def tapOf (l : List Sub) (id : Int) : Option (List It × Bool) := (findT l id).map (fun s => s.2.2)

/-! ### what may be, stays so -/
theorem subsMay_last {next last last' : Int} (hl : last' ≤ last) : ∀ {l : List Sub}, subsMay next last l = true → subsMay next last' l = true
  | [], _ => rfl
  | s :: l, h => by
    simp only [subsMay, subMay, Bool.and_eq_true, decide_eq_true_eq] at h ⊢
    exact ⟨⟨by omega, h.1.2⟩, h.2⟩
theorem subsMay_lt {next : Int} : ∀ {l : List Sub} {last : Int}, subsMay next last l = true → ∀ s ∈ l, last < s.1 ∧ s.1 < next ∧ isNum s.2.1 = true ∧ itsMay s.2.2.1 = true
  | [], _, _, s, hs => by cases hs
  | x :: l, last, h, s, hs => by
    simp only [subsMay, subMay, Bool.and_eq_true, decide_eq_true_eq] at h
    rcases List.mem_cons.1 hs with rfl | hs
    · exact ⟨h.1.1, h.1.2.1, h.1.2.2.1, h.1.2.2.2⟩
    · have := subsMay_lt h.2 s hs
      exact ⟨by omega, this.2⟩
theorem subsMay_join {next : Int} (s : Sub) (h1 : s.1 = next) (h2 : isNum s.2.1 = true) (h3 : itsMay s.2.2.1 = true) : ∀ {l : List Sub} {last : Int}, last < next → subsMay next last l = true → subsMay (next + 1) last (l ++ [s]) = true
  | [], last, hl, _ => by
    simp only [List.nil_append, subsMay, subMay, Bool.and_eq_true, decide_eq_true_eq, Bool.and_true, h2, h3, and_true]
    omega
  | x :: l, last, hl, h => by
    simp only [List.cons_append, subsMay, subMay, Bool.and_eq_true, decide_eq_true_eq] at h ⊢
    exact ⟨⟨h.1.1, by omega, h.1.2.2⟩, subsMay_join s h1 h2 h3 h.1.2.1 h.2⟩
theorem subsMay_erase {next : Int} : ∀ (k : Nat) {l : List Sub} {last : Int}, subsMay next last l = true → subsMay next last (l.eraseIdx k) = true
  | _, [], _, h => by simpa using h
  | 0, x :: l, last, h => by
    simp only [subsMay, subMay, Bool.and_eq_true, decide_eq_true_eq] at h
    rw [List.eraseIdx_cons_zero]
    exact subsMay_last (by omega) h.2
  | k + 1, x :: l, last, h => by
    simp only [List.eraseIdx_cons_succ, subsMay, Bool.and_eq_true] at h ⊢
    exact ⟨h.1, subsMay_erase k h.2⟩
theorem subsMay_set {next : Int} {s t : Sub} (h1 : t.1 = s.1) (h2 : t.2.1 = s.2.1) (h3 : itsMay s.2.2.1 = true → itsMay t.2.2.1 = true) : ∀ {l : List Sub} {last : Int} (k : Nat), l[k]? = some s → subsMay next last l = true → subsMay next last (l.set k t) = true
  | [], _, _, _, h => by simpa using h
  | x :: l, last, 0, hk, h => by
    simp only [List.getElem?_cons_zero, Option.some.injEq] at hk
    subst hk
    simp only [List.set_cons_zero, subsMay, subMay, Bool.and_eq_true, decide_eq_true_eq, h1, h2] at h ⊢
    exact ⟨⟨h.1.1, h.1.2.1, h.1.2.2.1, h3 h.1.2.2.2⟩, h.2⟩
  | x :: l, last, k + 1, hk, h => by
    simp only [List.getElem?_cons_succ] at hk
    simp only [List.set_cons_succ, subsMay, Bool.and_eq_true] at h ⊢
    exact ⟨h.1, subsMay_set h1 h2 h3 k hk h.2⟩
theorem prevAt_tail (x : It) (xs : List It) (k : Nat) (hk : 0 < k) : prevAt xs k = prevAt (x :: xs) (k + 1) := by
  unfold prevAt
  rw [if_neg (by omega), if_neg (by omega)]
  obtain ⟨k, rfl⟩ := Nat.exists_eq_add_of_lt hk
  simp
theorem okIt_first (p x : It) (h : okIt p x = true) : okIt zeroIt x = true := by
  unfold okIt at h ⊢
  have : decide (zeroIt = gapIt) = false := by decide
  rw [this]
  cases hx : x.1 <;> simp [hx] at h ⊢
  · exact h
  · exact h.1
theorem itsMay_tail {x : It} {xs : List It} (h : itsMay (x :: xs) = true) : itsMay xs = true := by
  have hl := itsMay_len h
  unfold itsMay at h
  rw [Bool.and_eq_true, List.all_eq_true] at h
  refine itsMay_yes xs (by simp at hl; omega) fun j hj => ?_
  have h1 := h.2 (j + 1) (List.mem_range.2 (by simp; omega))
  have e : (x :: xs).getD (j + 1) zeroIt = xs.getD j zeroIt := by simp
  rw [e] at h1
  rcases Nat.eq_zero_or_pos j with rfl | h0
  · have : prevAt xs 0 = zeroIt := rfl
    rw [this]
    exact okIt_first _ _ h1
  · rw [prevAt_tail x xs j h0]
    exact h1
theorem itsMay_nil : itsMay [] = true := rfl
theorem pollT_may (xs : List It) (l : Bool) : itsMay (pollT xs l).1 = true := by
  unfold pollT
  split
  · next h =>
    cases xs with
    | nil => cases l <;> rfl
    | cons x xs => exact itsMay_tail h
  · rfl
theorem place_at {id : Int} {l : List Sub} {s : Sub} (h : l[place id l]? = some s) : s.1 = id := by
  have hlt := (List.getElem?_eq_some_iff.1 h).1
  obtain ⟨_, e⟩ := List.getElem?_eq_some_iff.1 h
  have : ((l[place id l]).1 == id) = true := List.findIdx_getElem (p := fun s : Sub => s.1 == id) (w := hlt)
  rw [e] at this
  simpa using this

/-! ### who is apart -/
theorem find_erase {id other : Int} (hne : id ≠ other) : ∀ (l : List Sub), findT (l.eraseIdx (place other l)) id = findT l id
  | [] => rfl
  | s :: l => by
    unfold place findT
    rw [List.findIdx_cons]
    by_cases h : s.1 = other
    · have h2 : (s.1 == id) = false := by rw [h]; simpa using fun e => hne e.symm
      have h4 : (s.1 == other) = true := by simpa using h
      rw [h4]
      simp only [cond_true, List.eraseIdx_cons_zero, List.find?_cons, h2]
    · have h1 : (s.1 == other) = false := by simpa using h
      rw [h1]
      simp only [cond_false, List.eraseIdx_cons_succ, List.find?_cons]
      have ih := find_erase hne l
      unfold place findT at ih
      rw [ih]
theorem find_set {id other : Int} (hne : id ≠ other) (t : Sub) (ht : t.1 = other) : ∀ (l : List Sub), findT (l.set (place other l) t) id = findT l id
  | [] => rfl
  | s :: l => by
    unfold place findT
    rw [List.findIdx_cons]
    by_cases h : s.1 = other
    · have h2 : (s.1 == id) = false := by rw [h]; simpa using fun e => hne e.symm
      have h3 : (t.1 == id) = false := by rw [ht]; simpa using fun e => hne e.symm
      have h4 : (s.1 == other) = true := by simpa using h
      rw [h4]
      simp only [cond_true, List.set_cons_zero, List.find?_cons, h2, h3]
    · have h1 : (s.1 == other) = false := by simpa using h
      rw [h1]
      simp only [cond_false, List.set_cons_succ, List.find?_cons]
      have ih := find_set hne t ht l
      unfold place findT at ih
      rw [ih]
theorem find_join {id : Int} (l : List Sub) (t : Sub) (ht : t.1 ≠ id) : findT (l ++ [t]) id = findT l id := by
  unfold findT
  rw [List.find?_append]
  have : (t.1 == id) = false := by simpa using ht
  simp [List.find?_cons, this]
theorem find_none {id : Int} {l : List Sub} (h : ∀ s ∈ l, s.1 ≠ id) : findT l id = none := by
  unfold findT
  rw [List.find?_eq_none]
  intro s hs
  simpa using h s hs
theorem hubMay_parts {h : Hub} (m : hubMay h = true) : isNum h.1 = true ∧ h.2.length ≤ 16 ∧ subsMay h.1 (-1) h.2 = true := by
  unfold hubMay at m
  simp only [Bool.and_eq_true, decide_eq_true_eq] at m
  exact m
theorem hubMay_mk {h : Hub} (h1 : isNum h.1 = true) (h2 : h.2.length ≤ 16) (h3 : subsMay h.1 (-1) h.2 = true) : hubMay h = true := by
  unfold hubMay
  simp only [Bool.and_eq_true, decide_eq_true_eq]
  exact ⟨h1, h2, h3⟩
theorem isNum_iff {n : Int} : isNum n = true ↔ 0 ≤ n ∧ n < 1073741824 := by
  unfold isNum
  simp

/-- What Join gives, where it gives. -/
theorem joinT_ok {h : Hub} {most fr : Int} (he : (joinT h most fr).2.2 = 0) : hubMay h = true ∧ joinT h most fr = ((h.1 + 1, h.2 ++ [(h.1, fr, [], false)]), h.1, 0) ∧ hubMay (joinT h most fr).1 = true := by
  unfold joinT at he ⊢
  by_cases h1 : hubMay h = true
  · rw [if_pos h1] at he ⊢
    by_cases h2 : 1 ≤ most ∧ most ≤ 16 ∧ isNum fr = true
    · rw [if_pos h2] at he ⊢
      by_cases h3 : (h.2.length : Int) < most ∧ isNum (h.1 + 1) = true
      · rw [if_pos h3]
        obtain ⟨m1, m2, m3⟩ := hubMay_parts h1
        have m1' := isNum_iff.1 m1
        refine ⟨h1, rfl, hubMay_mk h3.2 (by simp; omega) (subsMay_join (h.1, fr, [], false) rfl h2.2.2 itsMay_nil (by omega) m3)⟩
      · rw [if_neg h3] at he
        simp at he
    · rw [if_neg h2] at he
      simp at he
  · rw [if_neg h1] at he
    simp at he
theorem leaveT_ok {h : Hub} {id : Int} (he : (leaveT h id).2 = 0) : hubMay h = true ∧ place id h.2 < h.2.length ∧ leaveT h id = ((h.1, h.2.eraseIdx (place id h.2)), 0) ∧ hubMay (leaveT h id).1 = true := by
  unfold leaveT at he ⊢
  by_cases h1 : hubMay h = true
  · rw [if_pos h1] at he ⊢
    by_cases h2 : place id h.2 < h.2.length
    · rw [if_pos h2]
      obtain ⟨m1, m2, m3⟩ := hubMay_parts h1
      have hle : (h.2.eraseIdx (place id h.2)).length ≤ h.2.length := List.length_eraseIdx_le _ _
      exact ⟨h1, h2, rfl, hubMay_mk m1 (Nat.le_trans hle m2) (subsMay_erase _ m3)⟩
    · rw [if_neg h2] at he
      simp at he
  · rw [if_neg h1] at he
    simp at he
theorem pollHT_ok {h : Hub} {id : Int} (he : (pollHT h id).2.2 = 0) : hubMay h = true ∧ (∃ s, h.2[place id h.2]? = some s ∧ (pollHT h id).1 = (h.1, h.2.set (place id h.2) (pollST s).1)) ∧ hubMay (pollHT h id).1 = true := by
  unfold pollHT at he ⊢
  by_cases h1 : hubMay h = true
  · rw [if_pos h1] at he ⊢
    cases hs : h.2[place id h.2]? with
    | none => rw [hs] at he; simp at he
    | some s =>
      rw [hs] at he
      simp only at he ⊢
      by_cases h2 : (pollST s).2.2 = 0
      · rw [if_pos h2]
        obtain ⟨m1, m2, m3⟩ := hubMay_parts h1
        exact ⟨h1, ⟨s, rfl, rfl⟩, hubMay_mk m1 (by simpa using m2) (subsMay_set (s := s) (t := (pollST s).1) rfl rfl (fun _ => pollT_may s.2.2.1 s.2.2.2) _ hs m3)⟩
      · rw [if_neg h2] at he
        exact absurd he h2
  · rw [if_neg h1] at he
    simp at he

/-- The stage's theorem, in plain words. -/
theorem apart_join {h : Hub} {id most fr : Int} (he : (joinT h most fr).2.2 = 0) :
    ((joinT h most fr).2.1 = id → findT h.2 id = none) ∧ ((joinT h most fr).2.1 ≠ id → findT (joinT h most fr).1.2 id = findT h.2 id) := by
  obtain ⟨h1, h2, _⟩ := joinT_ok he
  rw [h2]
  obtain ⟨m1, m2, m3⟩ := hubMay_parts h1
  refine ⟨fun e => find_none fun s hs => ?_, fun e => find_join _ _ e⟩
  have := subsMay_lt m3 s hs
  simp only at e
  omega
theorem apart_leave {h : Hub} {id other : Int} (hne : id ≠ other) (he : (leaveT h other).2 = 0) : findT (leaveT h other).1.2 id = findT h.2 id := by
  obtain ⟨_, _, h2, _⟩ := leaveT_ok he
  rw [h2]
  exact find_erase hne _
theorem apart_poll {h : Hub} {id other : Int} (hne : id ≠ other) (he : (pollHT h other).2.2 = 0) : findT (pollHT h other).1.2 id = findT h.2 id := by
  obtain ⟨_, ⟨s, hs, h2⟩, _⟩ := pollHT_ok he
  rw [h2]
  exact find_set hne (pollST s).1 (show s.1 = other from place_at hs) _

/-! ### who is told -/
theorem tellT_ok {h : Hub} {room : Int} {e : Ev} (he : (tellT h room e).2 = 0) : hubMay h = true ∧ evMay e = true ∧ 1 ≤ room ∧ room ≤ 64 ∧ tellT h room e = ((h.1, h.2.map (tellST room e)), 0) := by
  unfold tellT at he ⊢
  by_cases h1 : hubMay h = true
  · rw [if_pos h1] at he ⊢
    by_cases h2 : (pushT [] false room e).2.2 = 0
    · rw [if_pos h2]
      refine ⟨h1, ?_⟩
      unfold pushT at h2
      by_cases h3 : (itsMay [] && evMay e) = true
      · rw [if_pos h3] at h2
        by_cases h4 : 1 ≤ room ∧ room ≤ 64
        · exact ⟨by simpa [itsMay_nil] using h3, h4.1, h4.2, rfl⟩
        · rw [if_neg h4] at h2
          simp at h2
      · rw [if_neg h3] at h2
        simp at h2
    · rw [if_neg h2] at he
      exact absurd he h2
  · rw [if_neg h1] at he
    simp at he
/-- A tap that may be, and an event that may be: changed, but where it is full and has lost. -/
theorem push_changes {xs : List It} {l : Bool} {room : Int} {e : Ev} (h1 : itsMay xs = true) (h2 : evMay e = true) (h3 : 1 ≤ room) (h4 : room ≤ 64) (hs : (pushT xs l room e).1 = xs) (hl : (pushT xs l room e).2.1 = l) : l = true := by
  unfold pushT at hs hl
  rw [h1, h2, Bool.and_true, if_pos rfl, if_pos ⟨h3, h4⟩] at hs hl
  cases l with
  | true => rfl
  | false =>
    rw [if_neg (by simp)] at hs hl
    by_cases h5 : 1 ≤ room - xs.length
    · rw [if_pos h5] at hs
      have := congrArg List.length hs
      simp at this
    · rw [if_neg h5] at hl
      simp at hl
theorem leave_gone {h : Hub} {id : Int} (he : (leaveT h id).2 = 0) : place id (leaveT h id).1.2 = (leaveT h id).1.2.length := by
  obtain ⟨h1, _, h2, _⟩ := leaveT_ok he
  rw [h2]
  obtain ⟨_, _, m3⟩ := hubMay_parts h1
  generalize h.2 = l at *
  generalize h.1 = next at *
  clear h1 h2 he
  show place id (l.eraseIdx (place id l)) = (l.eraseIdx (place id l)).length
  have key : ∀ (l : List Sub) (last : Int), subsMay next last l = true → ∀ s ∈ l.eraseIdx (place id l), s.1 ≠ id := by
    intro l
    induction l with
    | nil => intro last _ s hs; simp at hs
    | cons x l ih =>
      intro last hm s hs
      simp only [subsMay, Bool.and_eq_true] at hm
      unfold place at hs
      rw [List.findIdx_cons] at hs
      by_cases hx : x.1 = id
      · have : (x.1 == id) = true := by simpa using hx
        rw [this] at hs
        simp only [cond_true, List.eraseIdx_cons_zero] at hs
        have := subsMay_lt hm.2 s hs
        omega
      · have : (x.1 == id) = false := by simpa using hx
        rw [this] at hs
        simp only [cond_false, List.eraseIdx_cons_succ, List.mem_cons] at hs
        rcases hs with rfl | hs
        · exact hx
        · exact ih _ hm.2 s hs
  have hk := key l _ m3
  unfold place
  unfold place at hk
  rw [List.findIdx_eq_length]
  intro s hs
  simpa using hk s hs
/-- Behind Leave there is no such subscriber; and its Id is not given again. -/
theorem leave_poll {h : Hub} {id : Int} (he : (leaveT h id).2 = 0) : (pollHT (leaveT h id).1 id).2.2 = 2 := by
  have hg := leave_gone he
  obtain ⟨_, _, _, h3⟩ := leaveT_ok he
  unfold pollHT
  rw [if_pos h3, hg, List.getElem?_eq_none (Nat.le_refl _)]
theorem leave_join {h : Hub} {id : Int} (he : (leaveT h id).2 = 0) {most fr : Int} (hj : (joinT (leaveT h id).1 most fr).2.2 = 0) : (joinT (leaveT h id).1 most fr).2.1 ≠ id ∧ (joinT (leaveT h id).1 most fr).2.1 = h.1 := by
  obtain ⟨h1, hp, h2, h3⟩ := leaveT_ok he
  obtain ⟨_, h4, _⟩ := joinT_ok hj
  rw [h4, h2]
  obtain ⟨_, _, m3⟩ := hubMay_parts h1
  have hs := List.getElem?_eq_getElem hp
  have hi := place_at hs
  have := subsMay_lt m3 _ (List.mem_of_getElem? hs)
  exact ⟨by simp only; omega, rfl⟩
/-- Leave's errors, where a hub may be. -/
theorem leave_err {h : Hub} {id : Int} (m : hubMay h = true) (he : (leaveT h id).2 ≠ 0) : (leaveT h id).2 = 2 := by
  unfold leaveT at he ⊢
  rw [if_pos m] at he ⊢
  by_cases h2 : place id h.2 < h.2.length
  · rw [if_pos h2] at he; exact absurd rfl he
  · rw [if_neg h2]
end Go.Proofs.YtmepbokoopgmiaaDoor
