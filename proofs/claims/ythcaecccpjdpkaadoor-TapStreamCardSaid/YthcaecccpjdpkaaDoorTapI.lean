/-
  How the world of TapStream's loops stands, and what its steps keep. No program's walk in sight.
-/
import Derived.Test.YthcaecccpjdpkaaDoorTapH
namespace Go.Proofs.YthcaecccpjdpkaaDoor
open Go.RowKit
/-- Reads as xs, from lo on, apart from block g. -/
def RdM (w : World) (lo g sz : Nat) (A : Option Addr) (n : Nat) (xs : List Value) : Prop := Rd w lo sz A n xs ∧ (0 < n * sz → ∀ b o, A = some ⟨b, o, none⟩ → b ≠ g)
theorem RdM.of_lt {w : World} {lo g sz n : Nat} {A : Option Addr} {xs : List Value} (h : Rd w lo sz A n xs) (hg : w.heap.size ≤ g) : RdM w lo g sz A n xs :=
  ⟨h, fun hn b o e => by
    obtain ⟨b', o', e', _, hlt, _⟩ := h.lt hn
    rw [e] at e'
    cases e'
    omega⟩
theorem RdM.of_fr {w : World} {lo lo' g sz n : Nat} {A : Option Addr} {xs : List Value} (h : Rd w lo sz A n xs) (hl : lo' ≤ lo) (hg : g < lo) : RdM w lo' g sz A n xs :=
  ⟨h.low hl, fun hn b o e => by
    obtain ⟨b', o', e', hlo, _⟩ := h.2 hn
    rw [e] at e'
    cases e'
    omega⟩
theorem RdM.below {w w' : World} {lo g sz n : Nat} {A : Option Addr} {xs : List Value} (h : RdM w lo g sz A n xs) (hb : Below w.heap.size w w') : RdM w' lo g sz A n xs := ⟨h.1.below hb, h.2⟩
theorem RdM.grown {w w' : World} {lo g sz n : Nat} {A : Option Addr} {xs : List Value} (h : RdM w lo g sz A n xs) (hg : w.grownBy w' (some g)) : RdM w' lo g sz A n xs := by
  rcases Nat.eq_zero_or_pos (n * sz) with h0 | hn
  · exact ⟨⟨h.1.1, fun hp => by omega⟩, h.2⟩
  · obtain ⟨b, o, e, hlo, hlt, hx⟩ := h.1.lt hn
    exact ⟨h.1.keep (fun b' hb' ⟨o', e'⟩ => hg.block b' hb' (fun e2 => h.2 hn b' o' e' (Option.some.inj e2))), h.2⟩
/-- Where the walk's things stand: the tap, its items, what was told, the flags. -/
structure SW (w wx : World) (gt gL k : Nat) (ls : List Bool) (xs : List It) (l : Bool) (T : List It) (D : Option Addr) (m c : Nat) (TD : Option Addr) (tc : Nat) : Prop where
  lt1 : w.heap.size ≤ gt
  lt2 : gt < gL
  b : Below w.heap.size w wx
  t : Blk wx gt 24 #[.slice D m c, .bool l]
  r : Rd wx (gL + 1) 101 D m (itsL xs)
  o : Own wx (gL + 1) 32 101 TD T.length tc (itsL T)
  ll : Own wx w.heap.size 4 1 (some ⟨gL, 0, none⟩) (k + 1) (k + 1) (ls.map Value.bool)
  s : 0 < m → ∀ b o, D = some ⟨b, o, none⟩ → rowOf TD tc ≠ some b
section
variable {w wx : World} {gt gL k : Nat} {ls : List Bool} {xs : List It} {l : Bool} {T : List It} {D : Option Addr} {m c : Nat} {TD : Option Addr} {tc : Nat}
theorem SW.ltL (h : SW w wx gt gL k ls xs l T D m c TD tc) : gL < wx.heap.size := by
  have := h.ll.row_lt gL (by simp [rowOf])
  exact this.2
theorem SW.below (h : SW w wx gt gL k ls xs l T D m c TD tc) {w' : World} (hb : Below wx.heap.size wx w') : SW w w' gt gL k ls xs l T D m c TD tc :=
  ⟨h.lt1, h.lt2, below_chain h.b hb, h.t.belowS hb, h.r.below hb, h.o.below hb, h.ll.below hb, h.s⟩
/-- An item told, the tap renewed. -/
theorem SW.told (h : SW w wx gt gL k ls xs l T D m c TD tc) {w6 w7 w8 : World} {ys : List It} {l' : Bool} {x : It} {D' : Option Addr} {m' c' : Nat} {TD' : Option Addr} {tc' : Nat} (hb : Below wx.heap.size wx w6) (hF : Rd w6 wx.heap.size 101 D' m' (itsL ys))
    (hO : Own w7 (gL + 1) 32 101 TD' (T ++ [x]).length tc' (itsL (T ++ [x]))) (hg7 : w6.grownBy w7 (rowOf TD tc)) (hrow : rowOf TD' tc' = rowOf TD tc ∨ rowOf TD' tc' = none ∨ rowOf TD' tc' = some w6.heap.size)
    (hB : Blk w8 gt 24 #[.slice D' m' c', .bool l']) (hg8 : w7.grownBy w8 (some gt)) : SW w w8 gt gL k ls ys l' (T ++ [x]) D' m' c' TD' tc' := by
  have hL := h.ltL
  have h1 := h.lt1
  have h2 := h.lt2
  have hbs := hb.size
  have h7s := hg7.size
  have hrl := h.o.row_lt
  have hrl' := hO.row_lt
  have hRr : ∀ b, 0 < m' * 101 → (∃ o, D' = some ⟨b, o, none⟩) → wx.heap.size ≤ b ∧ b < w6.heap.size := fun b hn ⟨o, e⟩ => by
    obtain ⟨b', o', e', hlo, hlt, _⟩ := hF.lt hn
    rw [e] at e'
    cases e'
    exact ⟨hlo, hlt⟩
  have hF7 : Rd w7 wx.heap.size 101 D' m' (itsL ys) := by
    rcases Nat.eq_zero_or_pos (m' * 101) with h0 | hn
    · exact ⟨hF.1, fun hp => by omega⟩
    · exact hF.keep (fun b hb' ho => hg7.block b hb' (fun e => by
        have := hrl b e.symm
        have := hRr b hn ho
        omega))
  have hF8 : Rd w8 wx.heap.size 101 D' m' (itsL ys) := by
    rcases Nat.eq_zero_or_pos (m' * 101) with h0 | hn
    · exact ⟨hF.1, fun hp => by omega⟩
    · exact hF7.keep (fun b hb' ho => hg8.block b hb' (fun e => by
        have := Option.some.inj e
        have := hRr b hn ho
        omega))
  refine ⟨h1, h2, ?_, hB, hF8.low (by omega), ?_, ?_, ?_⟩
  · exact (((below_chain h.b hb).grown hg7 (by have := h.b.size; omega) (fun k hk => by have := hrl k hk; omega)).grown hg8 (by have := h.b.size; omega) (fun k hk => by cases hk; exact h1))
  · exact hO.grown hg8 (fun g e er => by
      cases e
      have := hrl' gt er
      omega)
  · exact ((h.ll.below hb).grown hg7 (fun g e er => by
      have h3 := hrl g e
      simp [rowOf] at er
      omega)).grown hg8 (fun g e er => by
      cases e
      simp [rowOf] at er
      omega)
  · intro hm b o e er
    have h3 := hRr b (by omega) ⟨o, e⟩
    rcases hrow with h4 | h4 | h4
    · rw [h4] at er
      have := hrl b er
      omega
    · rw [h4] at er
      cases er
    · rw [h4] at er
      have := Option.some.inj er
      omega
/-- The tap renewed, a flag set. -/
theorem SW.pushed (h : SW w wx gt gL k ls xs l T D m c TD tc) {w1 w3 : World} {ys : List It} {l' : Bool} {n : Nat} {D' : Option Addr} {m' c' : Nat} (hb : Below wx.heap.size wx w1) (hF : Rd w1 wx.heap.size 101 D' m' (itsL ys))
    (hB : Blk w3 gt 24 #[.slice D' m' c', .bool l']) (hg : (w1.setCell ⟨gL, n, none⟩ (.bool l')).grownBy w3 (some gt)) : SW w w3 gt gL k (ls.set n l') ys l' T D' m' c' TD tc := by
  have hL := h.ltL
  have h1 := h.lt1
  have h2 := h.lt2
  have hbs := hb.size
  have hrl := h.o.row_lt
  have hg1 : w1.grownBy (w1.setCell ⟨gL, n, none⟩ (.bool l')) (some gL) := grown_set (World.grownBy.refl w1 _) (.inl rfl) _
  have hRr : ∀ b, 0 < m' * 101 → (∃ o, D' = some ⟨b, o, none⟩) → wx.heap.size ≤ b ∧ b < w1.heap.size := fun b hn ⟨o, e⟩ => by
    obtain ⟨b', o', e', hlo, hlt, _⟩ := hF.lt hn
    rw [e] at e'
    cases e'
    exact ⟨hlo, hlt⟩
  have hF2 : Rd (w1.setCell ⟨gL, n, none⟩ (.bool l')) wx.heap.size 101 D' m' (itsL ys) := by
    rcases Nat.eq_zero_or_pos (m' * 101) with h0 | hn
    · exact ⟨hF.1, fun hp => by omega⟩
    · exact hF.keep (fun b hb' ho => hg1.block b hb' (fun e => by
        have := Option.some.inj e
        have := hRr b hn ho
        omega))
  have hF3 : Rd w3 wx.heap.size 101 D' m' (itsL ys) := by
    rcases Nat.eq_zero_or_pos (m' * 101) with h0 | hn
    · exact ⟨hF.1, fun hp => by omega⟩
    · exact hF2.keep (fun b hb' ho => hg.block b hb' (fun e => by
        have := Option.some.inj e
        have := hRr b hn ho
        omega))
  have hs1 := hg1.size
  refine ⟨h1, h2, ?_, hB, hF3.low (by omega), ?_, ?_, ?_⟩
  · exact (((below_chain h.b hb).grown hg1 (by have := h.b.size; omega) (fun k hk => by cases hk; omega)).grown hg (by have := h.b.size; omega) (fun k hk => by cases hk; exact h1))
  · exact ((h.o.below hb).grown hg1 (fun g e er => by
      cases e
      have := hrl gL er
      omega)).grown hg (fun g e er => by
      cases e
      have := hrl gt er
      omega)
  · have h3 := ((h.ll.below hb).set n (.bool l')).grown hg (fun g e er => by
      cases e
      simp [rowOf] at er
      omega)
    rw [← List.map_set] at h3
    exact h3
  · intro hm b o e er
    have h3 := hRr b (by omega) ⟨o, e⟩
    have := hrl b er
    omega
end
end Go.Proofs.YthcaecccpjdpkaaDoor
