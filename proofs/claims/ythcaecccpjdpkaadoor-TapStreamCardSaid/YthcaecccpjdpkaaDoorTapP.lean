/-
  The stream of a tap, in plain words: what is polled is what was pushed, but for what is lost. No program in sight.
-/
import Derived.Test.YthcaecccpjdpkaaDoorTapG
namespace Go.Proofs.YthcaecccpjdpkaaDoor
open Go.RowKit

/-- What is told of the first n pushes, of which those of f are lost. -/
def toks (f : Nat → Bool) : Nat → List It
  | 0 => []
  | n + 1 => toks f n ++ (if f n then (if decide (0 < n) && f (n - 1) then [] else [gapIt]) else [(false, evN (n : Int))])
theorem toks_succ (f : Nat → Bool) (n : Nat) : toks f (n + 1) = toks f n ++ (if f n then (if decide (0 < n) && f (n - 1) then [] else [gapIt]) else [(false, evN (n : Int))]) := rfl
theorem toks_congr {f g : Nat → Bool} : ∀ (n : Nat), (∀ i, i < n → f i = g i) → toks f n = toks g n
  | 0, _ => rfl
  | n + 1, h => by
    unfold toks
    rw [toks_congr n (fun i hi => h i (by omega)), h n (by omega)]
    by_cases h0 : 0 < n
    · rw [h (n - 1) (by omega)]
    · simp [h0]
theorem toks_len (f : Nat → Bool) : ∀ n, (toks f n).length ≤ n
  | 0 => Nat.le_refl _
  | n + 1 => by
    have := toks_len f n
    unfold toks
    rw [List.length_append]
    split
    · split <;> simp <;> omega
    · simp; omega
theorem toks_more (f : Nat → Bool) (i : Nat) : ∀ n, i ≤ n → ∃ r, toks f n = toks f i ++ r
  | 0, h => ⟨[], by obtain rfl : i = 0 := by omega
                    simp⟩
  | n + 1, h => by
    by_cases hi : i = n + 1
    · subst hi; exact ⟨[], by simp⟩
    · obtain ⟨r, hr⟩ := toks_more f i n (by omega)
      exact ⟨_, by rw [toks_succ, hr, List.append_assoc]⟩
/-- Each gap has an event behind it. -/
def GoodX (xs : List It) : Prop := ∀ k x, xs[k]? = some x → (∃ v : Int, 0 ≤ v ∧ v < 1073741824 ∧ x = (false, evN v)) ∨ (x = gapIt ∧ ∃ v : Int, xs[k + 1]? = some (false, evN v))
theorem GoodX.nil : GoodX [] := fun k x h => by simp at h
theorem GoodX.tail {x : It} {l : List It} (h : GoodX (x :: l)) : GoodX l := fun k y hy => h (k + 1) y (by simpa using hy)
theorem GoodX.ok {xs : List It} (h : GoodX xs) : ItsOk xs := fun x hx => by
  obtain ⟨k, hk, rfl⟩ := List.getElem_of_mem hx
  rcases h k _ (List.getElem?_eq_getElem hk) with ⟨v, _, _, e⟩ | ⟨e, _⟩
  · rw [e]; exact evN_ok v
  · rw [e]; exact gapIt_ok
theorem GoodX.one {xs : List It} (h : GoodX xs) {v : Int} (h0 : 0 ≤ v) (h1 : v < 1073741824) : GoodX (xs ++ [(false, evN v)]) := fun k x hk => by
  by_cases hkl : k < xs.length
  · rw [List.getElem?_append_left hkl] at hk
    rcases h k x hk with he | ⟨rfl, u, hu⟩
    · exact .inl he
    · refine .inr ⟨rfl, u, ?_⟩
      have := (List.getElem?_eq_some_iff.1 hu).1
      rw [List.getElem?_append_left this]
      exact hu
  · rw [List.getElem?_append_right (by omega)] at hk
    have : k - xs.length = 0 := by
      have := (List.getElem?_eq_some_iff.1 hk).1
      simp at this
      omega
    rw [this] at hk
    simp at hk
    exact .inl ⟨v, h0, h1, hk.symm⟩
theorem GoodX.two {xs : List It} (h : GoodX xs) {v : Int} (h0 : 0 ≤ v) (h1 : v < 1073741824) : GoodX (xs ++ [gapIt, (false, evN v)]) := fun k x hk => by
  by_cases hkl : k < xs.length
  · rw [List.getElem?_append_left hkl] at hk
    rcases h k x hk with he | ⟨rfl, u, hu⟩
    · exact .inl he
    · refine .inr ⟨rfl, u, ?_⟩
      have := (List.getElem?_eq_some_iff.1 hu).1
      rw [List.getElem?_append_left this]
      exact hu
  · rw [List.getElem?_append_right (by omega)] at hk
    have hk2 : k - xs.length < 2 := by
      have := (List.getElem?_eq_some_iff.1 hk).1
      simpa using this
    rcases Nat.lt_succ_iff_lt_or_eq.1 hk2 with hk3 | hk3
    · have hk4 : k - xs.length = 0 := by omega
      rw [hk4] at hk
      simp at hk
      refine .inr ⟨hk.symm, v, ?_⟩
      rw [List.getElem?_append_right (by omega), show k + 1 - xs.length = 1 by omega]
      rfl
    · rw [hk3] at hk
      simp at hk
      exact .inl ⟨v, h0, h1, hk.symm⟩
theorem evN_ne_gap (v : Int) : ((false, evN v) : It) ≠ gapIt := fun h => by cases congrArg Prod.fst h
theorem GoodX.may {xs : List It} (h : GoodX xs) (hl : xs.length ≤ 64) : itsMay xs = true := by
  refine itsMay_yes xs hl (fun j hj => ?_)
  have hx : xs[j]? = some (xs[j]'hj) := List.getElem?_eq_getElem hj
  have hd : xs.getD j zeroIt = xs[j]'hj := by rw [List.getD_eq_getElem?_getD, hx]; rfl
  rw [hd]
  rcases h j _ hx with ⟨v, h0, h1, e⟩ | ⟨e, u, hu⟩
  · rw [e]
    unfold okIt
    rw [evMay_N v h0 h1]
    rfl
  · rw [e]
    have hp : decide (prevAt xs j = gapIt) = false := by
      rw [decide_eq_false_iff_not]
      unfold prevAt
      by_cases hj0 : j = 0
      · rw [if_pos hj0]
        intro h
        cases congrArg Prod.fst h
      · rw [if_neg hj0, List.getD_eq_getElem?_getD]
        cases hy : xs[j - 1]? with
        | none => intro h; cases congrArg Prod.fst h
        | some y =>
          intro hy2
          rcases h (j - 1) y hy with ⟨v, _, _, e2⟩ | ⟨_, v, hv⟩
          · rw [e2] at hy2
            exact evN_ne_gap v hy2
          · rw [show j - 1 + 1 = j by omega, hx, e] at hv
            exact evN_ne_gap v (Option.some.inj hv).symm
    unfold okIt
    rw [hp]
    simp [gapIt]
/-- How a tap stands: what was told, what it has, what is lost. -/
structure TInv (f : Nat → Bool) (n : Nat) (room : Int) (xs : List It) (l : Bool) (T : List It) : Prop where
  tok : toks f n = T ++ (xs ++ if l then [gapIt] else [])
  good : GoodX xs
  len : (xs.length : Int) ≤ room
  cnt : xs.length + (if l then 1 else 0) ≤ n
  lt : l = true → 0 < n ∧ f (n - 1) = true
  lf : l = false → n = 0 ∨ f (n - 1) = false ∨ xs = []
theorem TInv.zero (f : Nat → Bool) {room : Int} (h : 0 ≤ room) : TInv f 0 room [] false [] := ⟨rfl, GoodX.nil, by simpa using h, by simp, (fun h => by cases h), fun _ => .inl rfl⟩
theorem TInv.told {f : Nat → Bool} {n : Nat} {room : Int} {xs T : List It} {l : Bool} (h : TInv f n room xs l T) : T.length + (xs.length + (if l then 1 else 0)) ≤ n := by
  have h1 := toks_len f n
  rw [h.tok, List.length_append, List.length_append] at h1
  cases l <;> simp at h1 ⊢ <;> omega
theorem TInv.may {f : Nat → Bool} {n : Nat} {room : Int} {xs T : List It} {l : Bool} (h : TInv f n room xs l T) (hr : room ≤ 64) : itsMay xs = true := h.good.may (by have := h.len; omega)
theorem TInv.congr {f g : Nat → Bool} {n : Nat} {room : Int} {xs T : List It} {l : Bool} (h : TInv f n room xs l T) (hfg : ∀ i, i < n → f i = g i) : TInv g n room xs l T := by
  obtain ⟨h1, h2, h3, h4, h5, h6⟩ := h
  refine ⟨by rw [← toks_congr n hfg]; exact h1, h2, h3, h4, fun hl => ?_, fun hl => ?_⟩
  · obtain ⟨a, b⟩ := h5 hl
    exact ⟨a, by rw [← hfg (n - 1) (by omega)]; exact b⟩
  · rcases Nat.eq_zero_or_pos n with h0 | h0
    · exact .inl h0
    · rw [← hfg (n - 1) (by omega)]
      exact h6 hl
/-- A poll. -/
theorem TInv.poll {f : Nat → Bool} {n : Nat} {room : Int} {xs T : List It} {l : Bool} (h : TInv f n room xs l T) (hr : room ≤ 64) :
    ((pollT xs l).2.2.2 = 0 ∧ TInv f n room (pollT xs l).1 (pollT xs l).2.1 (T ++ [(pollT xs l).2.2.1]) ∧ (pollT xs l).1.length + (if (pollT xs l).2.1 then 1 else 0) + 1 = xs.length + (if l then 1 else 0)) ∨
    ((pollT xs l).2.2.2 = 6 ∧ xs = [] ∧ l = false) := by
  have hm := h.may hr
  obtain ⟨h1, h2, h3, h4, h5, h6⟩ := h
  unfold pollT
  rw [hm, if_pos rfl]
  cases xs with
  | cons x r =>
    left
    refine ⟨rfl, ⟨?_, h2.tail, ?_, ?_, h5, ?_⟩, ?_⟩
    · rw [h1]; simp
    · simp at h3 ⊢; omega
    · simp at h4 ⊢; omega
    · intro hl
      rcases h6 hl with h | h | h
      · exact .inl h
      · exact .inr (.inl h)
      · cases h
    · simp; omega
  | nil =>
    cases l with
    | true =>
      left
      refine ⟨rfl, ⟨?_, GoodX.nil, h3, by simp, (fun h => by cases h), fun _ => .inr (.inr rfl)⟩, rfl⟩
      rw [h1]; simp
    | false => right; exact ⟨rfl, rfl, rfl⟩
/-- A push. -/
theorem TInv.push {f g : Nat → Bool} {n : Nat} {room : Int} {xs T : List It} {l : Bool} (h : TInv f n room xs l T) (h1 : 1 ≤ room) (hr : room ≤ 64) (hn : n < 1000) (hfg : ∀ i, i < n → f i = g i) (hg : g n = (pushT xs l room (evN (n : Int))).2.1) :
    (pushT xs l room (evN (n : Int))).2.2 = 0 ∧ ((pushT xs l room (evN (n : Int))).1.length : Int) ≤ room ∧ ((pushT xs l room (evN (n : Int))).2.1 = true → room - 1 ≤ (xs.length : Int)) ∧ TInv g (n + 1) room (pushT xs l room (evN (n : Int))).1 (pushT xs l room (evN (n : Int))).2.1 T := by
  have hm := h.may hr
  have he := evMay_N (n : Int) (by omega) (by omega)
  have h := h.congr hfg
  obtain ⟨k1, k2, k3, k4, k5, k6⟩ := h
  have hG2 := k2.two (v := (n : Int)) (by omega) (by omega)
  have hG1 := k2.one (v := (n : Int)) (by omega) (by omega)
  unfold pushT at hg ⊢
  rw [hm, he] at hg ⊢
  rw [if_pos (show (true && true) = true from rfl), if_pos ⟨h1, hr⟩] at hg ⊢
  cases l with
  | true =>
    obtain ⟨k51, k52⟩ := k5 rfl
    rw [if_pos (show (true = true) from rfl)] at hg ⊢
    by_cases h2 : 2 ≤ room - (xs.length : Int)
    · rw [if_pos h2] at hg ⊢
      simp only at hg
      refine ⟨rfl, by simp; omega, (fun h => by cases h), ⟨?_, hG2, by simp; omega, by simp at k4 ⊢; omega, (fun h => by cases h), fun _ => .inr (.inl ?_)⟩⟩
      · unfold toks
        rw [k1, hg]
        simp
      · simpa using hg
    · rw [if_neg h2] at hg ⊢
      simp only at hg
      refine ⟨rfl, k3, fun _ => by omega, ⟨?_, k2, k3, by simp at k4 ⊢; omega, fun _ => ⟨by omega, by simpa using hg⟩, (fun h => by cases h)⟩⟩
      unfold toks
      rw [hg, k1]
      simp [k51, k52]
  | false =>
    rw [if_neg (show ¬ (false = true) by simp)] at hg ⊢
    by_cases h2 : 1 ≤ room - (xs.length : Int)
    · rw [if_pos h2] at hg ⊢
      simp only at hg
      refine ⟨rfl, by simp; omega, (fun h => by cases h), ⟨?_, hG1, by simp; omega, by simp at k4 ⊢; omega, (fun h => by cases h), fun _ => .inr (.inl ?_)⟩⟩
      · unfold toks
        rw [k1, hg]
        simp
      · simpa using hg
    · rw [if_neg h2] at hg ⊢
      simp only at hg
      have hx : xs ≠ [] := fun e => by subst e; simp at h2; omega
      have hnl : (decide (0 < n) && g (n - 1)) = false := by
        rcases k6 rfl with h | h | h
        · simp [h]
        · simp [h]
        · exact absurd h hx
      refine ⟨rfl, k3, fun _ => by omega, ⟨?_, k2, k3, by simp at k4 ⊢; omega, fun _ => ⟨by omega, by simpa using hg⟩, (fun h => by cases h)⟩⟩
      unfold toks
      rw [hg, k1, hnl]
      simp
end Go.Proofs.YthcaecccpjdpkaaDoor
