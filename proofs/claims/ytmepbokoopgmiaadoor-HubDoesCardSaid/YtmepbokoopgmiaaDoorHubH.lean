/-
  Contracts of hub.Leave and hub.Poll. The gap stands in its variable.
-/
import Derived.Test.YtmepbokoopgmiaaDoorHubG
namespace Go.Proofs.YtmepbokoopgmiaaDoor
open Go.RowKit
set_option linter.unusedSimpArgs false
set_option linter.unusedVariables false

/-- A hub of the call's own, and an error. -/
def GivesL (w : World) (r : Hub × Int) (e : Ending) (w' : World) : Prop :=
  ∃ D m c rs, e = .returned (.tuple #[.agg #[.int .i64 r.1.1, .slice D m c], .int .i64 r.2]) ∧ subs rs = r.1.2 ∧ HOwn w' w.heap.size D m c rs ∧ Below w.heap.size w w'
theorem turnedL_any (nx : Int) (A : Option Addr) (n c : Nat) (rs : List RS) (id : Int) (w : World) (hr : HRd w A n rs) (hG : GOk w) :
    Calls Tryd.prog 28 #[.agg #[.int .i64 nx, .slice A n c], .int .i64 id, .func (.func 31) #[] #[]] w (GivesL w (leaveT (nx, subs rs) id)) := by
  unfold leaveT
  cases hm : hubMay (nx, subs rs) with
  | false => exact (turnedL_bad nx A n c rs id w hr hG hm).mono fun e w' ⟨he, hb⟩ => ⟨none, 0, 0, [], he, rfl, HOwn.nil _ _ _, hb⟩
  | true =>
    rw [if_pos rfl]
    by_cases hp : place id (subs rs) < (subs rs).length
    · rw [if_pos hp]
      refine (turnedL_ok nx A n c rs id w hr hG hm ((subs rs).eraseIdx (place id (subs rs))) 0 (fun _ => False) (fun _ => True) (fun b h => h.elim) (fun _ _ _ h => h) hp (fun W lo gh D m d rs' hB hO hA hlo hlw hs hGW hml hm16 hb => ?_) rfl).mono fun e w' ⟨D, m, d, rs', he, hO, hs, hc, _⟩ => ⟨D, m, d, rs', he, hs, hO, hc.below (Nat.le_refl _) (fun b h => h.elim)⟩
      have := leaveF_any nx W lo gh D m d (place id (subs rs)) rs' (fun _ => False) hB hO hA hlo (by omega) hm16
      rw [hs] at this
      exact this
    · rw [if_neg hp]
      exact (turnedL_none nx A n c rs id w hr hG hm (by omega)).mono fun e w' ⟨he, hb⟩ => ⟨none, 0, 0, [], he, rfl, HOwn.nil _ _ _, hb⟩
/-- What turned gives, where Poll asked. -/
def GivesTP (w : World) (gx : Nat) (r : Hub × It × Int) (e : Ending) (w' : World) : Prop :=
  ∃ D m c rs, e = .returned (.tuple #[.agg #[.int .i64 r.1.1, .slice D m c], .int .i64 r.2.2]) ∧ subs rs = r.1.2 ∧ HOwn w' w.heap.size D m c rs ∧ Chg w w' (fun b => b = gx) ∧ Blk w' gx 36 (itL r.2.1).toArray
theorem turnedP_any (nx : Int) (A : Option Addr) (n c : Nat) (rs : List RS) (id : Int) (gx : Nat) (w : World) (hr : HRd w A n rs) (hG : GOk w) (hX : Blk w gx 36 (itL zeroIt).toArray) :
    Calls Tryd.prog 28 #[.agg #[.int .i64 nx, .slice A n c], .int .i64 id, .func (.func 29) #[] #[.pointer (some ⟨gx, 0, none⟩)]] w (GivesTP w gx (pollHT (nx, subs rs) id)) := by
  have hZ : ∀ w', Below w.heap.size w w' → Chg w w' (fun b => b = gx) ∧ Blk w' gx 36 (itL zeroIt).toArray := fun w' hb => ⟨⟨hb.os, hb.tape, hb.output, hb.size, fun b hl _ => hb.block b hl⟩, hX.belowS hb⟩
  unfold pollHT
  cases hm : hubMay (nx, subs rs) with
  | false => exact (turnedP_bad nx A n c rs id gx w hr hG hm).mono fun e w' ⟨he, hb⟩ => ⟨none, 0, 0, [], he, rfl, HOwn.nil _ _ _, hZ w' hb⟩
  | true =>
    rw [if_pos rfl]
    simp only
    cases hs : (subs rs)[place id (subs rs)]? with
    | none => exact (turnedP_none nx A n c rs id gx w hr hG hm (List.getElem?_eq_none_iff.1 hs)).mono fun e w' ⟨he, hb⟩ => ⟨none, 0, 0, [], he, rfl, HOwn.nil _ _ _, hZ w' hb⟩
    | some s =>
      have hp := (List.getElem?_eq_some_iff.1 hs).1
      have hsl := hubMay_its hm s (List.mem_of_getElem? hs)
      have hF : ∀ (W : World) (lo gh : Nat) (D : Option Addr) (m d : Nat) (rs' : List RS), Blk W gh 24 #[.int .i64 nx, .slice D m d] → HOwn W lo D m d rs' → HApart gh D d rs' → lo ≤ gh → w.heap.size ≤ lo → subs rs' = subs rs → GOk W → m = (subs rs).length → m ≤ 16 → Below w.heap.size w W →
          Calls Tryd.prog 29 #[.pointer (some ⟨gh, 0, none⟩), .int .i64 ((place id (subs rs) : Nat) : Int), .pointer (some ⟨gx, 0, none⟩)] W (DoPost W lo gh nx (fun b => b = gx) (fun w' => Blk w' gx 36 (itL (pollST s).2.1).toArray) ((subs rs).set (place id (subs rs)) (pollST s).1) (pollST s).2.2) := fun W lo gh D m d rs' hB hO hA hlo hlw hs' hGW hml hm16 hb => by
        have := pollF_any nx W lo gh gx D m d (place id (subs rs)) rs' (itL zeroIt).toArray (by rw [List.size_toArray, itL_len zeroIt zeroIt_ok]) hB (hX.belowS hb) hO hA hlo (by have := hX.lt; omega) (by omega) hm16 hGW s (by rw [hs']; exact hs) hsl
        rw [hs'] at this
        exact this
      simp only
      by_cases he : (pollST s).2.2 = 0
      · rw [if_pos he]
        exact (turnedP_ok nx A n c rs id gx w hr hG hm _ _ (fun b => b = gx) (fun w' => Blk w' gx 36 (itL (pollST s).2.1).toArray) (fun b h => by have := hX.lt; omega) (fun W W' hc h => hc.blk h (by have := hX.lt; omega)) hp hF he).mono fun e w' ⟨D, m, d, rs', he, hO, hs, hc, hY⟩ => ⟨D, m, d, rs', he, hs, hO, hc, hY⟩
      · rw [if_neg he]
        exact (turnedP_err nx A n c rs id gx w hr hG hm _ _ (fun b => b = gx) (fun w' => Blk w' gx 36 (itL (pollST s).2.1).toArray) (fun b h => by have := hX.lt; omega) (fun W W' hc h => hc.blk h (by have := hX.lt; omega)) hp hF (by simpa using he)).mono fun e w' ⟨he, hc, hY⟩ => ⟨none, 0, 0, [], he, rfl, HOwn.nil _ _ _, hc, hY⟩

set_option maxRecDepth 100000 in
set_option maxHeartbeats 4000000 in
theorem hleave_any (nx : Int) (A : Option Addr) (n c : Nat) (rs : List RS) (id : Int) (w : World) (hr : HRd w A n rs) (hG : GOk w) :
    Calls Tryd.prog 10 #[.agg #[.int .i64 nx, .slice A n c], .int .i64 id] w (GivesL w (leaveT (nx, subs rs) id)) := by
  have hT := hid (fun W h k => turnedL_any nx A n c rs id W h k)
  have HR := hid hr
  have HG := hid hG
  clear hr hG
  unfold GivesL at hT
  generalize leaveT (nx, subs rs) id = r at *
  obtain ⟨⟨hn, hsl⟩, er⟩ := r
  simp only at hT
  go_enter Tryd.func10, Tryd.ntmps10
  go_wp2_with (first
    | (refine wpList_bx rfl 24 _ rfl #[.int .i64 nx, .slice A n c] rfl ?_; intro w1 hB1 hb1 hy; have hz1 := hid hy; clear hy)
    | ((with_reducible refine at_alloc 24 ?_); refine wpList_al rfl 24 rfl _ (hub_zero _) ?_; intro w2 hB2 hb2 hy; clear hy; have X0 := hid (below_chain hb1 hb2); have X1 := hid (hB1.belowS hb2); have X2 := hid hB2; obtain ⟨a0, a1, a2, a3⟩ := two_facts X1.out)
    | ((with_reducible refine (hT.out _ (HR.out.below X0.out) (HG.out.below X0.out)).mono ?_); rintro e w3 ⟨D, m, d, rs', rfl, hs, hO, hb3⟩; clear a0 a1 a2 a3; obtain ⟨c0, c1, c2, c3⟩ := two_facts (X2.out.belowS hb3)))
  have hs1 := hz1.out
  have hs2 := X2.out.lt
  have B := (X2.out.belowS hb3).both (c := .int .i64 hn) (d := .slice D m d)
  have hOf := hO.setOut (g := w1.heap.size) (.int .i64 hn) (.slice D m d) hs2
  have hbf := below_both (g := w1.heap.size) (below_chain X0.out hb3) (.int .i64 hn) (.slice D m d) (by omega)
  generalize (w3.setCell ⟨w1.heap.size, 0, none⟩ (.int .i64 hn)).setCell ⟨w1.heap.size, 1, none⟩ (.slice D m d) = wf at *
  obtain ⟨g0, g1, _, _⟩ := two_facts B
  exact bodyPost_ret (v := .tuple #[.agg #[.int .i64 hn, .slice D m d], .int .i64 er]) (by simp [results, Tryd.f10, go_sem, g0, g1]) rfl ⟨D, m, d, rs', rfl, hs, hOf.low (by have := X0.out.size; omega), hbf⟩

/-- What Poll answers. -/
def GivesPH (w : World) (r : Hub × It × Int) (e : Ending) (w' : World) : Prop :=
  ∃ D m c rs, e = .returned (.tuple #[.agg #[.int .i64 r.1.1, .slice D m c], .agg (itL r.2.1).toArray, .int .i64 r.2.2]) ∧ subs rs = r.1.2 ∧ HOwn w' w.heap.size D m c rs ∧ Below w.heap.size w w'
theorem pollHT_itok {h : Hub} (ho : ∀ s ∈ h.2, ItsOk s.2.2.1) (id : Int) : ItOk (pollHT h id).2.1 := by
  unfold pollHT
  split
  · split
    · next s hs =>
      have := pollT_itok (ho s (List.mem_of_getElem? hs)) s.2.2.2
      split <;> exact this
    · exact zeroIt_ok
  · exact zeroIt_ok
theorem HRd.its {w : World} {A : Option Addr} {n : Nat} {rs : List RS} (h : HRd w A n rs) : ∀ s ∈ subs rs, ItsOk s.2.2.1 := fun s hs => by
  simp only [subs, List.mem_map] at hs
  obtain ⟨r, hr, rfl⟩ := hs
  exact (h.2 r hr).1

set_option maxRecDepth 100000 in
set_option maxHeartbeats 4000000 in
theorem hpoll_any (nx : Int) (A : Option Addr) (n c : Nat) (rs : List RS) (id : Int) (w : World) (hr : HRd w A n rs) (hG : GOk w) :
    Calls Tryd.prog 9 #[.agg #[.int .i64 nx, .slice A n c], .int .i64 id] w (GivesPH w (pollHT (nx, subs rs) id)) := by
  have hT := hid (fun gx W h k hX => turnedP_any nx A n c rs id gx W h k hX)
  have oI := pollHT_itok (h := (nx, subs rs)) hr.its id
  have HR := hid hr
  have HG := hid hG
  clear hr hG
  unfold GivesTP at hT
  generalize pollHT (nx, subs rs) id = r at *
  obtain ⟨⟨hn, hsl⟩, it, er⟩ := r
  simp only at hT oI
  have hszI := it_size it oI
  have hsI := it_sizeA it oI
  have honeI := hid (it_one it)
  have hzr : Hid (∀ W, (zeroValue 36).run Tryd.prog W = .ok (.agg (itL zeroIt).toArray) W) := hid zeroI_run
  have hu36 := Tryd.underlying36
  unfold GivesPH
  generalize hIL : itL it = IL at *
  have HIL := hid hIL
  simp only
  clear hIL
  generalize hZL : (itL zeroIt).toArray = Z at *
  clear hZL
  go_enter Tryd.func9, Tryd.ntmps9
  go_wp2_with (first
    | (refine wpList_bx rfl 24 _ rfl #[.int .i64 nx, .slice A n c] rfl ?_; intro w1 hB1 hb1 hy; have hz1 := hid hy; clear hy)
    | ((with_reducible refine at_alloc 24 ?_); refine wpList_al rfl 24 rfl _ (hub_zero _) ?_; intro w2 hB2 hb2 hy; have hz2 := hid hy; clear hy)
    | ((with_reducible refine at_alloc 36 ?_); refine wpList_al rfl 36 rfl _ (hzr.out _) ?_; intro w4 hB4 hb4 hy; clear hy; have X0 := hid (below_chain (below_chain hb1 hb2) hb4); have X1 := hid ((hB1.belowS hb2).belowS hb4); have X2 := hid (hB2.belowS hb4); have X3 := hid hB4; obtain ⟨a0, a1, a2, a3⟩ := two_facts X1.out; obtain ⟨c0, c1, c2, c3⟩ := two_facts X2.out)
    | ((with_reducible refine (hT.out _ _ (HR.out.below X0.out) (HG.out.below X0.out) X3.out).mono ?_); rintro e w5 ⟨D, m, d, rs', rfl, hs, hO, hc5, hB5⟩; have l1 : w.heap.size < w1.heap.size := (by have := hz1.out; omega); have l2 : w1.heap.size < w2.heap.size := (by have := hz2.out; omega); have hY2 := hc5.blk X2.out (by omega); clear a0 a1 a2 a3 c0 c1 c2 c3; obtain ⟨c0, c1, c2, c3⟩ := two_facts hY2))
  have hCh := chg_both w5 w1.heap.size (.int .i64 hn) (.slice D m d)
  have Z2 : Blk ((w5.setCell ⟨w1.heap.size, 0, none⟩ (.int .i64 hn)).setCell ⟨w1.heap.size, 1, none⟩ (.slice D m d)) w1.heap.size 24 #[.int .i64 hn, .slice D m d] := hY2.both
  have Z3 := hCh.blk hB5 (by omega)
  have lx2 := X2.out.lt
  have lx3 := X3.out.lt
  have hH6 := hO.chg hCh (fun b hb e => by omega)
  have hb5 := (X0.out.trans (hc5.below (B := w.heap.size) (by have := X0.out.size; omega) (fun b e => by omega)))
  have hb6 := below_chgA hb5 hCh (by omega)
  clear c0 c1 c2 c3 hY2 hB5 hO hCh hb5 hc5 hB1 hb1 hB2 hb2 hB4 hb4 X0 X1 X2 X3
  generalize (w5.setCell ⟨w1.heap.size, 0, none⟩ (.int .i64 hn)).setCell ⟨w1.heap.size, 1, none⟩ (.slice D m d) = w6 at *
  have Z2 := Z2.drew
  have Z3 := Z3.drew
  obtain ⟨c0, c1, c2, c3⟩ := two_facts Z2
  generalize w1.heap.size = g4 at *
  generalize w2.heap.size = g5 at *
  refine wp_region_held_drew (S := (fun w' => w'.cell? ⟨g4, 0, none⟩ = some (.int .i64 hn) ∧ w'.cell? ⟨g4, 1, none⟩ = some (.slice D m d) ∧ w'.rangeAt g5 0 IL)) (by kernel_rfl) ⟨c0, c1, Z3.range0⟩ (fun hHeld => ?_)
  refine reg_take (v := ?_) 0 rfl (by kernel_rfl) (by kernel_rfl) (by kernel_rfl) (fun _ _ _ h => h) (Or.inl ⟨by rfl, ?_⟩) (by assumption) ?_; rotate_left; (intro w hSw; (try dsimp only at hSw); go_simp); (try with_reducible rfl); (try simp only [Act.put, List.setIfInBounds_toArray, List.set_cons_zero, List.set_cons_succ])
  refine reg_take 1 rfl (by kernel_rfl) (by kernel_rfl) (by kernel_rfl) (fun _ _ _ h => h) (yieldsIf_load_mid (by rfl) _ _ rfl _ _ rfl _ _ (by intro w hSw; (try dsimp only at hSw); go_split_ands; assumption) (by assumption) (by rfl) (by assumption)) (by assumption) ?_; (try simp only [Act.put, List.setIfInBounds_toArray, List.set_cons_zero, List.set_cons_succ])
  refine reg_take (v := ?_) 2 rfl (by kernel_rfl) (by kernel_rfl) (by kernel_rfl) (fun _ _ _ h => h) (Or.inl ⟨by rfl, ?_⟩) (by assumption) ?_; rotate_left; (intro w hSw; (try dsimp only at hSw); go_simp); (try with_reducible rfl); (try simp only [Act.put, List.setIfInBounds_toArray, List.set_cons_zero, List.set_cons_succ])
  refine reg_only 3 rfl (by kernel_rfl) (fun K hK => ?_); refine step_str rfl 24 _ _ rfl g4 #[.int .i64 hn, .slice D m d] rfl rfl _ _ Z2 rfl (hub_size _ _) (one_hub _ _ _ _) ?_; intro w8 hB8 hg8 hy; clear hy; have hB8' := Z3.grown hg8 (by simp; omega); obtain ⟨q0, q1, _, _⟩ := two_facts hB8; refine hK.out _ _ ?_ (fun hHeld => ?_); (exact ⟨q0, q1, hB8'.range0⟩); clear hK K; (try simp only [Act.put, List.setIfInBounds_toArray, List.set_cons_zero, List.set_cons_succ])
  refine reg_only 4 rfl (by kernel_rfl) (fun K hK => ?_); refine step_str rfl 36 _ _ rfl g5 IL.toArray rfl rfl _ _ hB8' rfl hsI honeI.out ?_; intro w9 hB9 hg9 hy; clear hy; have hB9' := hB8.grown hg9 (by simp; omega); obtain ⟨r0, r1, _, _⟩ := two_facts hB9'; refine hK.out _ _ ?_ (fun hHeld => ?_); (exact ⟨r0, r1, hB9.range0⟩); clear hK K; (try simp only [Act.put, List.setIfInBounds_toArray, List.set_cons_zero, List.set_cons_succ])
  refine reg_take (v := ?_) 5 rfl (by kernel_rfl) (by kernel_rfl) (by kernel_rfl) (fun _ _ _ h => h) (Or.inl ⟨by rfl, ?_⟩) (by assumption) ?_; rotate_left; (intro w hSw; (try dsimp only at hSw); go_simp); (try with_reducible rfl); (try simp only [Act.put, List.setIfInBounds_toArray, List.set_cons_zero, List.set_cons_succ])
  refine wpAnyH_done (by kernel_rfl) ?_ _
  have hHf := ((show HOwn w6.drew w4.heap.size D m d rs' from hH6.below (below_self_drew w6)).grown hg8 (by omega)).grown hg9 (by omega)
  have hbf := below_set (below_set (below_drew1 hb6) hg8 (by omega)) hg9 (by omega)
  go_wp2
  have hres := results_ccs (P := Tryd.prog) (fn := Tryd.f9) (p := 4) (q := 5) (t := 6) rfl
  refine bodyPost_ret (hres _ _ g4 g5 _ _ _ _ rfl rfl hB9' hB9 Tryd.underlying24 Tryd.underlying36 rfl rfl (hub_size _ _) hsI) rfl ?_
  exact ⟨D, m, d, rs', rfl, hs, hHf.low (by omega), hbf⟩
end Go.Proofs.YtmepbokoopgmiaaDoor
