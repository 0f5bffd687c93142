/-
  The walk of the law ShaParts: at any three slices of bytes it returns true and writes nothing that was there, the table k standing in its variable.
-/
import Derived.Test.YtpmmgknehmkjlaaDoorShaNamesW
namespace Go.Proofs.YtpmmgknehmkjlaaDoor
open Go.RowKit

section
variable {P : Program} {w : World}
/-- An append onto an own slice of bytes, at a step of a region that draws its order. -/
theorem step_appO {ops : Array Oper} {o : Oper} {a : Act} {K : Act → World → Prop} {Q : Exit → Act → World → Prop} {E : Prop} (hgd : Region.wanted o (yielded ops a.tmps) = true) (s x : Operand) (t : TypeId)
    (ho : o.op = .call { callee := .builtin .append, args := #[s, x], argTypes := #[t, t] })
    (lo : Nat) (e : TypeId) (i : TypeInfo) (z : Value) (ht : P.underlying t = some (.slice e)) (hi : P.info? e = some i) (hz : i.zero = some z)
    (hsize : i.size = 1) (hby : i.bytes = 1) (hzs : z.cells.size = 1)
    (D : Option Addr) (n c : Nat) (bs : List UInt8) (hs : a.eval s = .slice D n c) (hown : OwnO w lo D n c bs)
    (A : Option Addr) (m cc lo2 : Nat) (news : List UInt8) (hx : a.eval x = .slice A m cc) (hr : Rd w lo2 1 A m (news.map bv))
    (h63 : n + m ≤ maxLen) (hbytes : (n + m) ≤ 140737488355328) (hlo : lo ≤ w.heap.size)
    (h : ∀ D' c' w', OwnO w' lo D' (n + m) c' (bs ++ news) → w.grownBy w' (rowOf D c) → K (a.put o.dst (.slice D' (n + m) c')) w') :
    if Region.wanted o (yielded ops a.tmps) = true then Oper.wp P o a w K Q else E := by
  obtain ⟨D', c', w', hrun, h2, h3⟩ := run_appO (P := P) w lo t o.type e i z ht hi hz hsize hby hzs D n c bs hown A m cc lo2 news hr h63 hbytes hlo
  rw [if_pos hgd]
  unfold Oper.wp execOp
  simp only [ho, resolve, invoke, builtin, Sem.run_bind, Sem.run_pure, Result.andThen_ok, List.map_toArray, List.map_cons, List.map_nil, hs, hx, hrun]
  exact h _ _ _ h2 h3
end
theorem Parts.three (w : World) (e : TypeId) (A B C : Option Addr) (n m l c d k : Nat) (xs ys zs : List UInt8) (h1 : Rd w 0 1 A n (xs.map bv)) (h2 : Rd w 0 1 B m (ys.map bv)) (h3 : Rd w 0 1 C l (zs.map bv)) :
    Parts (w.alloc (.cells #[.slice A n c, .slice B m d, .slice C l k] e)) (some ⟨w.heap.size, 0, none⟩) 3 [xs, ys, zs] :=
  Parts.lit w e [.slice A n c, .slice B m d, .slice C l k] [xs, ys, zs] rfl fun i hi => by
    match i, hi with
    | 0, _ => exact ⟨A, n, c, rfl, h1⟩
    | 1, _ => exact ⟨B, m, d, rfl, h2⟩
    | 2, _ => exact ⟨C, l, k, rfl, h3⟩

set_option maxHeartbeats 1000000 in
theorem parts_big (A B C : Option Addr) (n m l c d k : Nat) (w : World) (h : 300 < n ∨ 300 < m ∨ 300 < l) (hK : KOk w) :
    Calls Tryd.prog 4 #[.slice A n c, .slice B m d, .slice C l k] w fun e w' => e = .returned (.bool true) ∧ Below w.heap.size w w' := by
  by_cases h1 : 300 < n
  · go_enter Tryd.func4, Tryd.ntmps4
    go_wp2_with fail
    (with_reducible refine (alive_any w hK).mono ?_); rintro e w2 ⟨rfl, hb2⟩
    go_wp2_with fail
    go_ret
    exact ⟨rfl, hb2⟩
  · by_cases h2 : 300 < m
    · go_enter Tryd.func4, Tryd.ntmps4
      go_wp2_with fail
      (with_reducible refine (alive_any w hK).mono ?_); rintro e w2 ⟨rfl, hb2⟩
      go_wp2_with fail
      go_ret
      exact ⟨rfl, hb2⟩
    · have h3 : 300 < l := by omega
      go_enter Tryd.func4, Tryd.ntmps4
      go_wp2_with fail
      (with_reducible refine (alive_any w hK).mono ?_); rintro e w2 ⟨rfl, hb2⟩
      go_wp2_with fail
      go_ret
      exact ⟨rfl, hb2⟩

set_option maxRecDepth 100000 in
set_option maxHeartbeats 4000000 in
theorem parts_small (A B C : Option Addr) (n m l c d k : Nat) (xs ys zs : List UInt8) (w : World) (hn : n ≤ 300) (hm : m ≤ 300) (hl : l ≤ 300) (ha : Rd w 0 1 A n (xs.map bv)) (hb : Rd w 0 1 B m (ys.map bv)) (hc : Rd w 0 1 C l (zs.map bv)) (hK : KOk w) :
    Calls Tryd.prog 4 #[.slice A n c, .slice B m d, .slice C l k] w fun e w' => e = .returned (.bool true) ∧ Below w.heap.size w w' := by
  obtain ⟨i0, hi0, hz0, hz1, hz2⟩ := info_parts byte_info
  have hxl : xs.length = n := by simpa using ha.1
  have hyl : ys.length = m := by simpa using hb.1
  have hzl : zs.length = l := by simpa using hc.1
  have hML : (xs ++ ys ++ zs).length ≤ 100000 := by simp [hxl, hyl, hzl]; omega
  have HO1 := hid (fun W P (h : Parts W P 1 [xs ++ ys ++ zs]) (k : KOk W) => of_call P 1 1 _ (xs ++ ys ++ zs) (by simp) W h hML (by decide) k)
  have HO3 := hid (fun W P (h : Parts W P 3 [xs, ys, zs]) (k : KOk W) => of_call P 3 3 _ (xs ++ ys ++ zs) (by simp) W h hML (by decide) k)
  have HO2 := hid (fun W P (h : Parts W P 2 [xs, ys ++ zs]) (k : KOk W) => of_call P 2 2 _ (xs ++ ys ++ zs) (by simp) W h hML (by decide) k)
  have HON := hid (fun W P (h : Parts W P 3 [[], xs ++ ys ++ zs, []]) (k : KOk W) => of_call P 3 3 _ (xs ++ ys ++ zs) (by simp) W h hML (by decide) k)
  have hdl := shaOf_len (xs ++ ys ++ zs)
  have HE := run_eq_dig _ _ hdl hdl
  have hzC := digS _ hdl
  have hone := oneBv' (shaOf (xs ++ ys ++ zs))
  have hsz : ((shaOf (xs ++ ys ++ zs)).map bv).toArray.size = zeroD.size := by simp [hdl]; rfl
  generalize hC : ((shaOf (xs ++ ys ++ zs)).map bv).toArray = D at *
  clear hML hxl hyl hzl hdl hC
  have tok1 : True := trivial
  have tok2 : True := trivial
  go_enter Tryd.func4, Tryd.ntmps4
  go_wp2_with fail
  (with_reducible refine (alive_any w hK).mono ?_); rintro e w1 ⟨rfl, hb1⟩
  have ha1 := ha.below hb1
  have hb1' := hb.below hb1
  have hc1 := hc.below hb1
  have hK1 := hK.below hb1
  clear ha hb hc
  go_wp2_with (first
    | (clear tok1; refine wpList_appO _ rfl _ _ 22 rfl w1.heap.size 5 i0 _ Tryd.underlying22 hi0 hz0 hz1 hz2 rfl (some ⟨w1.heap.size, 0, none⟩) 0 0 [] rfl (OwnO.nil _ _ _) A n c 0 xs rfl (ha1.alloc _) (by simp only [maxLen]; omega) (by omega) (by simp) ?_; intro D2 c2 w2 hO2 hg2; simp only [Nat.zero_add, List.nil_append] at hO2; have hb2 : Below w1.heap.size w1 w2 := ((Below.refl _ _).alloc (Nat.le_refl _) _).grown hg2 (by simp) (by simp [rowOf]))
    | (clear tok2; refine wpList_appO _ rfl _ _ 22 rfl w1.heap.size 5 i0 _ Tryd.underlying22 hi0 hz0 hz1 hz2 rfl D2 n c2 xs rfl hO2 B m d 0 ys rfl (hb1'.below hb2) (by simp only [maxLen]; omega) (by omega) hb2.size ?_; intro D3 c3 w3 hO3 hg3; have hb3 : Below w1.heap.size w1 w3 := hb2.grown hg3 hb2.size hO2.row)
    | (refine wpList_appO _ rfl _ _ 22 rfl w1.heap.size 5 i0 _ Tryd.underlying22 hi0 hz0 hz1 hz2 rfl D3 (n + m) c3 (xs ++ ys) rfl hO3 C l k 0 zs rfl (hc1.below hb3) (by simp only [maxLen]; omega) (by omega) hb3.size ?_; intro D4 c4 w4 hO4 hg4; have hb4 : Below w1.heap.size w1 w4 := hb3.grown hg4 hb3.size hO3.row))
  have hK4 := hK1.below hb4
  have r4 : Rd w4 0 1 D4 (n + m + l) ((xs ++ ys ++ zs).map bv) := hO4.rd.low (Nat.zero_le _)
  have hb04 := below_step hb1 hb4
  (with_reducible refine (HO1.out _ _ (Parts.one w4 _ D4 (n + m + l) c4 _ r4) (hK4.al _)).mono ?_); rintro e w5 ⟨rfl, hb5'⟩
  have hb5 := below_al hb5'
  go_wp2_with (first
    | (refine wpList_al rfl 25 rfl zeroD (zeroD_run _) ?_; intro w6 hE6 hb6 hz6)
    | (refine wpList_str rfl 25 _ _ rfl w5.heap.size D rfl rfl _ zeroD hE6 hsz zeroD_size hone ?_; intro w7 hE7 hg7 hz7))
  have hb7 := hb6.grown hg7 hb6.size (by intro g e; cases e; exact Nat.le_refl _)
  have hb47 := below_step hb5 hb7
  have hb17 := below_step hb4 hb47
  have hK7 := hK1.below hb17
  have qa := ha1.below hb17
  have qb := hb1'.below hb17
  have qc := hc1.below hb17
  have q4 := r4.below hb47
  have hb07 := below_step hb1 hb17
  have rA := hE7.range
  have hlC : D.toList.length = 32 := by rw [Array.length_toList, hsz]; rfl
  have hzCl : (Tryd.prog.info? 25).map (·.size) = some D.toList.length := by simpa using hzC
  have hoCl : ∀ v ∈ D.toList, v.oneCell' = true := by simpa using hone
  have hu := Tryd.underlying25
  clear ha1 hb1' hc1 hK1 hO2 hg2 hb2 hO3 hg3 hb3 hO4 hg4 hb4 hK4 r4 hb5' hb5 hE6 hb6 hz6 hg7 hz7 hb7 hb47 hb17 hb04
  refine wp_region_held_drew (S := fun w' => w'.rangeAt w5.heap.size 0 D.toList) (by kernel_rfl) rA (fun hHeld => ?_)
  refine reg_take (v := ?_) 0 rfl (by kernel_rfl) (by kernel_rfl) (by kernel_rfl) (fun _ _ _ h => h) (Or.inl ⟨by rfl, ?_⟩) (by assumption) ?_; rotate_left; (intro w hSw; (try dsimp only at hSw); go_simp); (try with_reducible rfl); (try simp only [Act.put, List.setIfInBounds_toArray, List.set_cons_zero, List.set_cons_succ])
  refine reg_take (v := ?_) 1 rfl (by kernel_rfl) (by kernel_rfl) (by kernel_rfl) (fun _ _ _ h => h) (Or.inl ⟨by rfl, ?_⟩) (by assumption) ?_; rotate_left; (intro w hSw; (try dsimp only at hSw); go_simp); (try with_reducible rfl); (try simp only [Act.put, List.setIfInBounds_toArray, List.set_cons_zero, List.set_cons_succ])
  refine reg_take (v := ?_) 2 rfl (by kernel_rfl) (by kernel_rfl) (by kernel_rfl) (fun _ _ _ h => h) (Or.inl ⟨by rfl, ?_⟩) (by assumption) ?_; rotate_left; (intro w hSw; (try dsimp only at hSw); go_simp); (try with_reducible rfl); (try simp only [Act.put, List.setIfInBounds_toArray, List.set_cons_zero, List.set_cons_succ])
  refine reg_take (v := ?_) 3 rfl (by kernel_rfl) (by kernel_rfl) (by kernel_rfl) (fun _ _ _ h => h) (Or.inl ⟨by rfl, ?_⟩) (by assumption) ?_; rotate_left; (intro w hSw; (try dsimp only at hSw); go_simp); (try with_reducible rfl); (try simp only [Act.put, List.setIfInBounds_toArray, List.set_cons_zero, List.set_cons_succ])
  refine reg_take (v := ?_) 4 rfl (by kernel_rfl) (by kernel_rfl) (by kernel_rfl) (fun _ _ _ h => h) (Or.inl ⟨by rfl, ?_⟩) (by assumption) ?_; rotate_left; (intro w hSw; (try dsimp only at hSw); go_simp); (try with_reducible rfl); (try simp only [Act.put, List.setIfInBounds_toArray, List.set_cons_zero, List.set_cons_succ])
  refine reg_take 7 rfl (by kernel_rfl) (by kernel_rfl) (by kernel_rfl) (fun _ _ _ h => h) (yieldsIf_load_mid (by rfl) _ _ rfl _ _ rfl _ _ (by intro w hSw; (try dsimp only at hSw); go_split_ands; assumption) (by assumption) (by rfl) (by assumption)) (by assumption) ?_; (try simp only [Act.put, List.setIfInBounds_toArray, List.set_cons_zero, List.set_cons_succ])
  refine reg_only 5 rfl (by kernel_rfl) (fun K hK => ?_); go_simp; refine hK.out _ _ ?_ (fun hHeld => ?_); (exact range_below hHeld (below_alloc1 _ _)); clear hK K; (try simp only [Act.put, List.setIfInBounds_toArray, List.set_cons_zero, List.set_cons_succ])
  refine reg_only 6 rfl (by kernel_rfl) (fun K hK => ?_); go_simp; (with_reducible refine (HO3.out _ _ (Parts.three w7 _ A B C n m l c d k _ _ _ qa qb qc).drew (hK7.al _).drew).mono ?_); rintro e u1 ⟨rfl, hu1'⟩; refine hK.out _ _ ?_ (fun hHeld => ?_); (exact range_below hHeld hu1'); clear hK K; (try simp only [Act.put, List.setIfInBounds_toArray, List.set_cons_zero, List.set_cons_succ])
  have hu1 : Below w7.heap.size w7 u1 := below_al (w := w7) (o := .cells #[.slice A n c, .slice B m d, .slice C l k] 22) ⟨hu1'.os, hu1'.tape, hu1'.output, hu1'.size, hu1'.block⟩
  have qa1 := qa.below hu1
  have qb1 := qb.below hu1
  have qc1 := qc.below hu1
  have q41 := q4.below hu1
  have hK1 := hK7.below hu1
  have h01 := below_step hb07 hu1
  clear qa qb qc q4 hK7 hu1'
  have rA1 := hHeld
  refine reg_take (v := ?_) 8 rfl (by kernel_rfl) (by kernel_rfl) (by kernel_rfl) (fun _ _ _ h => h) (Or.inl ⟨by rfl, ?_⟩) (by assumption) ?_; rotate_left; (intro w hSw; (try dsimp only at hSw); go_simp); (try with_reducible rfl); (try simp only [Act.put, List.setIfInBounds_toArray, List.set_cons_zero, List.set_cons_succ])
  refine reg_take (v := ?_) 9 rfl (by kernel_rfl) (by kernel_rfl) (by kernel_rfl) (fun _ _ _ h => h) (Or.inl ⟨by rfl, ?_⟩) (by assumption) ?_; rotate_left; (intro w hSw; (try dsimp only at hSw); go_simp); (try with_reducible rfl); (try simp only [Act.put, List.setIfInBounds_toArray, List.set_cons_zero, List.set_cons_succ])
  refine reg_take (v := ?_) 10 rfl (by kernel_rfl) (by kernel_rfl) (by kernel_rfl) (fun _ _ _ h => h) (Or.inl ⟨by rfl, ?_⟩) (by assumption) ?_; rotate_left; (intro w hSw; (try dsimp only at hSw); go_simp); (try with_reducible rfl); (try simp only [Act.put, List.setIfInBounds_toArray, List.set_cons_zero, List.set_cons_succ])
  refine reg_take (v := ?_) 11 rfl (by kernel_rfl) (by kernel_rfl) (by kernel_rfl) (fun _ _ _ h => h) (Or.inl ⟨by rfl, ?_⟩) (by assumption) ?_; rotate_left; (intro w hSw; (try dsimp only at hSw); go_simp); (try with_reducible rfl); (try simp only [Act.put, List.setIfInBounds_toArray, List.set_cons_zero, List.set_cons_succ])
  refine reg_take (v := ?_) 13 rfl (by kernel_rfl) (by kernel_rfl) (by kernel_rfl) (fun _ _ _ h => h) (Or.inl ⟨by rfl, ?_⟩) (by assumption) ?_; rotate_left; (intro w hSw; (try dsimp only at hSw); go_simp); (try with_reducible rfl); (try simp only [Act.put, List.setIfInBounds_toArray, List.set_cons_zero, List.set_cons_succ])
  refine reg_take (v := ?_) 15 rfl (by kernel_rfl) (by kernel_rfl) (by kernel_rfl) (fun _ _ _ h => h) (Or.inl ⟨by rfl, ?_⟩) (by assumption) ?_; rotate_left; (intro w hSw; (try dsimp only at hSw); go_simp); (try with_reducible rfl); (try simp only [Act.put, List.setIfInBounds_toArray, List.set_cons_zero, List.set_cons_succ])
  refine reg_take 19 rfl (by kernel_rfl) (by kernel_rfl) (by kernel_rfl) (fun _ _ _ h => h) (yieldsIf_load_mid (by rfl) _ _ rfl _ _ rfl _ _ (by intro w hSw; (try dsimp only at hSw); go_split_ands; assumption) (by assumption) (by rfl) (by assumption)) (by assumption) ?_; (try simp only [Act.put, List.setIfInBounds_toArray, List.set_cons_zero, List.set_cons_succ])
  refine reg_only 12 rfl (by kernel_rfl) (fun K hK => ?_); go_simp; refine hK.out _ _ ?_ (fun hHeld => ?_); (exact range_below hHeld (below_alloc1 _ _)); clear hK K; (try simp only [Act.put, List.setIfInBounds_toArray, List.set_cons_zero, List.set_cons_succ])
  refine reg_only 14 rfl (by kernel_rfl) (fun K hK => ?_); refine step_appO (by rfl) _ _ 22 rfl u1.heap.size 5 i0 _ Tryd.underlying22 hi0 hz0 hz1 hz2 rfl (some ⟨u1.heap.size, 0, none⟩) 0 0 [] rfl (OwnO.nil _ _ _) B m d 0 ys rfl (qb1.alloc _) (by simp only [maxLen]; omega) (by omega) (by simp) ?_; intro D5 c5 u2 hP2 hg2; refine hK.out _ _ ?_ (fun hHeld => ?_); (exact range_below hHeld ((Below.refl _ _).grown hg2 (Nat.le_refl _) (by simp [rowOf]))); clear hK K; (try simp only [Act.put, List.setIfInBounds_toArray, List.set_cons_zero, List.set_cons_succ])
  simp only [List.nil_append] at hP2
  have hv2 : Below u1.heap.size u1 u2 := ((Below.refl _ _).alloc (Nat.le_refl _) (.cells #[] 5)).grown hg2 (by simp) (by simp [rowOf])
  have rA3 : ∀ u3 (D6 : Option Addr) (c6 : Nat), OwnO u3 u1.heap.size D6 (0 + m + l) c6 (ys ++ zs) → u2.grownBy u3 (rowOf D5 c5) → u3.rangeAt w5.heap.size 0 D.toList := fun u3 D6 c6 hP3 hg3 => range_below rA1 (hv2.grown hg3 hv2.size hP2.row)
  refine reg_only 16 rfl (by kernel_rfl) (fun K hK => ?_); refine step_appO (by rfl) _ _ 22 rfl u1.heap.size 5 i0 _ Tryd.underlying22 hi0 hz0 hz1 hz2 rfl D5 (0 + m) c5 ys rfl hP2 C l k 0 zs rfl (qc1.below hv2) (by simp only [maxLen]; omega) (by omega) hv2.size ?_; intro D6 c6 u3 hP3 hg3; refine hK.out _ _ ?_ (fun hHeld => ?_); (exact rA3 u3 D6 c6 hP3 hg3); clear hK K; (try simp only [Act.put, List.setIfInBounds_toArray, List.set_cons_zero, List.set_cons_succ])
  have hv3 : Below u1.heap.size u1 u3 := hv2.grown hg3 hv2.size hP2.row
  have qa3 := qa1.below hv3
  have q43 := q41.below hv3
  have qd3 : Rd u3 0 1 D6 (0 + m + l) ((ys ++ zs).map bv) := hP3.rd.low (Nat.zero_le _)
  rw [Nat.zero_add] at qd3
  have hK3 := hK1.below hv3
  have h03 := below_step h01 hv3
  clear rA3 rA1 qa1 qb1 qc1 q41 hK1 h01 hv2 hP2 hg2 hg3 hP3 hv3
  refine reg_only 17 rfl (by kernel_rfl) (fun K hK => ?_); go_simp; refine hK.out _ _ ?_ (fun hHeld => ?_); (exact range_below hHeld (below_alloc1 _ _)); clear hK K; (try simp only [Act.put, List.setIfInBounds_toArray, List.set_cons_zero, List.set_cons_succ])
  refine reg_only 18 rfl (by kernel_rfl) (fun K hK => ?_); go_simp; (with_reducible refine (HO2.out _ _ (Parts.two u3 _ A D6 n (m + l) c c6 _ _ qa3 qd3) (hK3.al _)).mono ?_); rintro e u4 ⟨rfl, hu4'⟩; refine hK.out _ _ ?_ (fun hHeld => ?_); (exact range_below hHeld hu4'); clear hK K; (try simp only [Act.put, List.setIfInBounds_toArray, List.set_cons_zero, List.set_cons_succ])
  have hu4 := below_al hu4'
  have q44 := q43.below hu4
  have hK4 := hK3.below hu4
  have h04 := below_step h03 hu4
  clear hu4' hu4 q43 hK3 h03 qa3 qd3
  refine reg_take (v := ?_) 20 rfl (by kernel_rfl) (by kernel_rfl) (by kernel_rfl) (fun _ _ _ h => h) (Or.inl ⟨by rfl, ?_⟩) (by assumption) ?_; rotate_left; (intro w hSw; (try dsimp only at hSw); go_simp); (try with_reducible rfl); (try simp only [Act.put, List.setIfInBounds_toArray, List.set_cons_zero, List.set_cons_succ])
  refine reg_take (v := ?_) 21 rfl (by kernel_rfl) (by kernel_rfl) (by kernel_rfl) (fun _ _ _ h => h) (Or.inl ⟨by rfl, ?_⟩) (by assumption) ?_; rotate_left; (intro w hSw; (try dsimp only at hSw); go_simp); (try with_reducible rfl); (try simp only [Act.put, List.setIfInBounds_toArray, List.set_cons_zero, List.set_cons_succ])
  refine reg_take (v := ?_) 22 rfl (by kernel_rfl) (by kernel_rfl) (by kernel_rfl) (fun _ _ _ h => h) (Or.inl ⟨by rfl, ?_⟩) (by assumption) ?_; rotate_left; (intro w hSw; (try dsimp only at hSw); go_simp); (try with_reducible rfl); (try simp only [Act.put, List.setIfInBounds_toArray, List.set_cons_zero, List.set_cons_succ])
  refine reg_take (v := ?_) 23 rfl (by kernel_rfl) (by kernel_rfl) (by kernel_rfl) (fun _ _ _ h => h) (Or.inl ⟨by rfl, ?_⟩) (by assumption) ?_; rotate_left; (intro w hSw; (try dsimp only at hSw); go_simp); (try with_reducible rfl); (try simp only [Act.put, List.setIfInBounds_toArray, List.set_cons_zero, List.set_cons_succ])
  refine reg_take 26 rfl (by kernel_rfl) (by kernel_rfl) (by kernel_rfl) (fun _ _ _ h => h) (yieldsIf_load_mid (by rfl) _ _ rfl _ _ rfl _ _ (by intro w hSw; (try dsimp only at hSw); go_split_ands; assumption) (by assumption) (by rfl) (by assumption)) (by assumption) ?_; (try simp only [Act.put, List.setIfInBounds_toArray, List.set_cons_zero, List.set_cons_succ])
  refine reg_only 24 rfl (by kernel_rfl) (fun K hK => ?_); go_simp; refine hK.out _ _ ?_ (fun hHeld => ?_); (exact range_below hHeld (below_alloc1 _ _)); clear hK K; (try simp only [Act.put, List.setIfInBounds_toArray, List.set_cons_zero, List.set_cons_succ])
  refine reg_only 25 rfl (by kernel_rfl) (fun K hK => ?_); go_simp; (with_reducible refine (HON.out _ _ (Parts.three u4 _ none D4 none 0 (n + m + l) 0 0 c4 0 [] _ [] (Rd.nil _ _ _ _) q44 (Rd.nil _ _ _ _)) (hK4.al _)).mono ?_); rintro e u5 ⟨rfl, hu5'⟩; refine hK.out _ _ ?_ (fun hHeld => ?_); (exact range_below hHeld hu5'); clear hK K; (try simp only [Act.put, List.setIfInBounds_toArray, List.set_cons_zero, List.set_cons_succ])
  have hfin := below_step h04 (below_al hu5')
  refine reg_take (v := ?_) 27 rfl (by kernel_rfl) (by kernel_rfl) (by kernel_rfl) (fun _ _ _ h => h) (Or.inl ⟨by rfl, ?_⟩) (by assumption) ?_; rotate_left; (intro w hSw; (try dsimp only at hSw); go_simp); (try with_reducible rfl); (try simp only [Act.put, List.setIfInBounds_toArray, List.set_cons_zero, List.set_cons_succ])
  refine reg_take (v := ?_) 28 rfl (by kernel_rfl) (by kernel_rfl) (by kernel_rfl) (fun _ _ _ h => h) (Or.inl ⟨by rfl, ?_⟩) (by assumption) ?_; rotate_left; (intro w hSw; (try dsimp only at hSw); go_simp); (try with_reducible rfl); (try simp only [Act.put, List.setIfInBounds_toArray, List.set_cons_zero, List.set_cons_succ])
  refine reg_take (v := ?_) 29 rfl (by kernel_rfl) (by kernel_rfl) (by kernel_rfl) (fun _ _ _ h => h) (Or.inl ⟨by rfl, ?_⟩) (by assumption) ?_; rotate_left; (intro w hSw; (try dsimp only at hSw); go_simp); (try with_reducible rfl); (try simp only [Act.put, List.setIfInBounds_toArray, List.set_cons_zero, List.set_cons_succ])
  refine wpAnyH_done (by kernel_rfl) ?_ _
  go_wp2_with fail
  go_ret
  exact ⟨rfl, hfin⟩

namespace shaParts
theorem shaParts_law (A : Option Addr) (n c : Nat) (us : List Int) {w : World} (ha : IsRow .u8 w A n c us) (B : Option Addr) (m d : Nat) (vs : List Int) (hb : IsRow .u8 w B m d vs) (C : Option Addr) (l k : Nat) (ws : List Int) (hc : IsRow .u8 w C l k ws) (hK : KOk w) :
    Calls Tryd.prog 4 #[.slice A n c, .slice B m d, .slice C l k] w fun e w' => e = .returned (.bool true) ∧ Below w.heap.size w w' := by
  obtain ⟨_, xs, hx⟩ := isRow_rd ha
  obtain ⟨_, ys, hy⟩ := isRow_rd hb
  obtain ⟨_, zs, hz⟩ := isRow_rd hc
  by_cases h : 300 < n ∨ 300 < m ∨ 300 < l
  · exact parts_big A B C n m l c d k w h hK
  · exact parts_small A B C n m l c d k xs ys zs w (by omega) (by omega) (by omega) hx hy hz hK
end shaParts
end Go.Proofs.YtpmmgknehmkjlaaDoor
