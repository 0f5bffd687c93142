/-
  Contract of the reference's Poll of a hub. No condition beyond those each theorem names.
-/
import Derived.Test.YtmepbokoopgmiaaDoorHubZg
import Derived.Test.YtmepbokoopgmiaaDoorHubV
namespace Go.Proofs.YtmepbokoopgmiaaDoor
open Go.RowKit
set_option linter.unusedSimpArgs false
set_option linter.unusedVariables false

/-- A subscriber's tap written anew, in a hub of the call's own; its items lie apart from the row. -/
theorem hown_settap2 {w : World} {lo g m d k : Nat} {rs : List RS} {r : RS} {xs : List It} {l : Bool} {D' : Option Addr} {m' c' : Nat} (hO : HOwn w lo (some ⟨g, 0, none⟩) m d rs) (hrow : rowOf (some ⟨g, 0, none⟩) d = some g) (hx : rs[k]? = some r) (ho : ItsOk xs)
    (hF : Fr w lo 101 D' m' (itsL xs)) (hD : 0 < m' → ∀ b o, D' = some ⟨b, o, none⟩ → b ≠ g) : HOwn ((w.setCell ⟨g, k * 4 + 2, none⟩ (.slice D' m' c')).setCell ⟨g, k * 4 + 2 + 1, none⟩ (.bool l)) lo (some ⟨g, 0, none⟩) m d (rs.set k ((r.1.1, r.1.2.1, xs, l), D', m', c')) := by
  have hC := tap_set_chg w g (k * 4 + 2) (k * 4 + 2 + 1) (.slice D' m' c') (.bool l)
  refine ⟨?_, fun q hq => ?_⟩
  · have := rssL_set rs k r ((r.1.1, r.1.2.1, xs, l), D', m', c') hx rfl rfl
    rw [← this]
    exact (hO.1.set _ _).set _ _
  · rw [hrow]
    rcases List.mem_or_eq_of_mem_set hq with hq | rfl
    · have := hO.2 q hq
      rw [hrow] at this
      exact this.chg hC (fun b _ e => by rw [e])
    · exact ⟨ho, hF.keepB (by omega) hC fun hm b o e hbad => hD hm b o e hbad, fun hm b o e e2 => hD hm b o e (Option.some.inj e2)⟩
theorem taken_poll {xs : List It} (h : itsMay xs = true) (lost : Bool) : pollT xs lost = ((takenT xs lost).1, (takenT xs lost).2.1, (takenT xs lost).2.2.1, if (takenT xs lost).2.2.2 then 0 else 6) := by
  unfold pollT takenT
  rw [if_pos h]
  cases xs with
  | nil => cases lost <;> rfl
  | cons x l => rfl
theorem takenT_ok {xs : List It} (ho : ItsOk xs) (lost : Bool) : ItsOk (takenT xs lost).1 ∧ ItOk (takenT xs lost).2.2.1 := by
  unfold takenT
  cases xs with
  | nil => cases lost <;> exact ⟨itsOk_nil, by first | exact zeroIt_ok | exact gapIt_ok⟩
  | cons x l => exact ⟨fun y hy => ho y (by simp [hy]), ho x (by simp)⟩
theorem subs_at {rs : List RS} {k : Nat} {r : RS} (h : rs[k]? = some r) : (subs rs)[k]? = some r.1 := by simp [subs, h]
theorem rows_at {rs : List RS} {k : Nat} {s : Sub} (h : (subs rs)[k]? = some s) : ∃ r, rs[k]? = some r ∧ r.1 = s := by
  simp only [subs, List.getElem?_map, Option.map_eq_some_iff] at h
  exact h

set_option maxRecDepth 100000 in
set_option maxHeartbeats 8000000 in
theorem poll24_bad (h : Hub) (A : Option Addr) (n c : Nat) (id : Int) (w : World) (hh : HubIn w h A n) (hm : hubMay h = false) :
    Calls Tryd.prog 20 #[.agg #[.int .i64 h.1, .slice A n c], .int .i64 id] w (GivesPH w (zeroHub, zeroIt, 8)) := by
  have hM := hid (fun W (k : HubIn W h A n) => hmay_any h A n c W k)
  have HH := hid hh
  have hzr : Hid (∀ W, (zeroValue 36).run Tryd.prog W = .ok (.agg (itL zeroIt).toArray) W) := hid zeroI_run
  have hzb : Hid (∀ W, (Instr.build 36 #[]).run Tryd.prog W = .ok (.agg (itL zeroIt).toArray) W) := hid zeroI_build
  have hsaZ := it_sizeA zeroIt zeroIt_ok
  have honeZ := hid (it_one zeroIt)
  have hu36 := Tryd.underlying36
  rw [hm] at hM
  clear hh hm
  obtain ⟨nx, ss⟩ := h
  try dsimp only at *
  unfold GivesPH
  try dsimp only
  generalize hZL : (itL zeroIt).toArray = Z at *
  have HZL := hid hZL
  clear hZL
  go_enter Tryd.func20, Tryd.ntmps20
  go_upto_region 1 with (first
    | (refine wpList_bx rfl 24 _ rfl #[.int .i64 nx, .slice A n c] rfl ?_; intro w1 hB1 hb1 hy; have hz1 := hid hy; clear hy)
    | ((with_reducible refine at_alloc (d := some 4) 24 ?_); refine wpList_al rfl 24 rfl _ (hub_zero _) ?_; intro w2 hB2 hb2 hy; have hz2 := hid hy; clear hy)
    | ((with_reducible refine at_alloc (d := some 5) 36 ?_); refine wpList_al rfl 36 rfl _ (hzr.out _) ?_; intro w3 hB3 hb3 hy; clear hy))
  have X0 := hid (below_chain (below_chain hb1 hb2) hb3)
  have X1 := hid ((hB1.belowS hb2).belowS hb3)
  have X2 := hid (hB2.belowS hb3)
  have X3 := hid hB3
  have l1 := hid (show w.heap.size < w1.heap.size by have := hz1.out; omega)
  have l2 := hid (show w1.heap.size < w2.heap.size by have := hz2.out; omega)
  have l3 := hid hB3.lt
  clear hB1 hb1 hz1 hB2 hb2 hz2 hB3 hb3
  generalize w1.heap.size = g2 at *
  generalize w2.heap.size = g3 at *
  obtain ⟨a0, a1, a2, a3⟩ := two_facts X1.out
  go_wp2_with (first
    | ((with_reducible refine (hM.out _ (HH.out.below X0.out)).mono ?_); rintro e w3 ⟨rfl, hb3⟩; clear a0 a1 a2 a3; have X0 := hid (below_chain X0.out hb3); have X1 := hid (X1.out.belowS hb3); have X2 := hid (X2.out.belowS hb3); have X3 := hid (X3.out.belowS hb3); have l3 := hid (show g3 < w3.heap.size by have := l3.out; have := (hb3).size; omega); obtain ⟨a0, a1, a2, a3⟩ := two_facts X1.out)
    | ((with_reducible refine at_build 24 ?_); refine wpList_bd rfl 24 rfl _ (hub_built _) ?_)
    | ((with_reducible refine at_build 36 ?_); refine wpList_bd rfl 36 rfl _ (hzb.out _) ?_)
    | ((with_reducible refine at_store (x := .tmp 4) 24 ?_); refine wpList_str rfl 24 _ _ rfl g2 _ rfl rfl _ _ X2.out rfl (hub_size _ _) (one_hub _ _ _ _) ?_; intro v8 hV8 hg8 hy; clear hy)
    | ((with_reducible refine at_store (x := .tmp 5) 36 ?_); refine wpList_str rfl 36 _ _ rfl g3 Z rfl rfl _ _ (X3.out.grown hg8 (fun e => by have := Option.some.inj e; have := l2.out; omega)) rfl hsaZ honeZ.out ?_; intro v9 hV9 hg9 hy; clear hy))
  have hV9' := hV8.grown hg9 (fun e => by have := Option.some.inj e; have := l2.out; omega)
  have hbf := below_set (below_set X0.out hg8 (by have := l1.out; omega)) hg9 (by have := l1.out; have := l2.out; omega)
  have hres := results_ccs (P := Tryd.prog) (fn := Tryd.f20) (p := 4) (q := 5) (t := 6) rfl
  refine bodyPost_ret (hres _ _ g2 g3 _ _ _ _ rfl rfl hV9' hV9 Tryd.underlying24 Tryd.underlying36 rfl rfl (hub_size _ _) hsaZ) rfl ?_
  exact ⟨none, 0, 0, [], rfl, rfl, HOwn.nil _ _ _, hbf⟩

set_option maxRecDepth 100000 in
set_option maxHeartbeats 8000000 in
theorem poll24_none (h : Hub) (A : Option Addr) (n c : Nat) (id : Int) (w : World) (hh : HubIn w h A n) (hm : hubMay h = true) (hp : ¬ place id h.2 < h.2.length) :
    Calls Tryd.prog 20 #[.agg #[.int .i64 h.1, .slice A n c], .int .i64 id] w (GivesPH w (zeroHub, zeroIt, 2)) := by
  have hM := hid (fun W (k : HubIn W h A n) => hmay_any h A n c W k)
  have HH := hid hh
  have hzr : Hid (∀ W, (zeroValue 36).run Tryd.prog W = .ok (.agg (itL zeroIt).toArray) W) := hid zeroI_run
  have hzb : Hid (∀ W, (Instr.build 36 #[]).run Tryd.prog W = .ok (.agg (itL zeroIt).toArray) W) := hid zeroI_build
  have hsaZ := it_sizeA zeroIt zeroIt_ok
  have honeZ := hid (it_one zeroIt)
  have hu36 := Tryd.underlying36
  have hn16 := (hubMay_parts hm).2.1
  have hln := hh.len
  have hFi := hid (fun W (k : HubIn W h A n) => find24_any h A n c id W k (by omega))
  unfold GivesN at hFi
  have hpl : plT h.2 id = -1 := by unfold plT; rw [if_neg hp]
  rw [hpl] at hFi
  clear hp hpl hln hn16
  rw [hm] at hM
  clear hh hm
  obtain ⟨nx, ss⟩ := h
  try dsimp only at *
  unfold GivesPH
  try dsimp only
  generalize hZL : (itL zeroIt).toArray = Z at *
  have HZL := hid hZL
  clear hZL
  go_enter Tryd.func20, Tryd.ntmps20
  go_upto_region 1 with (first
    | (refine wpList_bx rfl 24 _ rfl #[.int .i64 nx, .slice A n c] rfl ?_; intro w1 hB1 hb1 hy; have hz1 := hid hy; clear hy)
    | ((with_reducible refine at_alloc (d := some 4) 24 ?_); refine wpList_al rfl 24 rfl _ (hub_zero _) ?_; intro w2 hB2 hb2 hy; have hz2 := hid hy; clear hy)
    | ((with_reducible refine at_alloc (d := some 5) 36 ?_); refine wpList_al rfl 36 rfl _ (hzr.out _) ?_; intro w3 hB3 hb3 hy; clear hy))
  have X0 := hid (below_chain (below_chain hb1 hb2) hb3)
  have X1 := hid ((hB1.belowS hb2).belowS hb3)
  have X2 := hid (hB2.belowS hb3)
  have X3 := hid hB3
  have l1 := hid (show w.heap.size < w1.heap.size by have := hz1.out; omega)
  have l2 := hid (show w1.heap.size < w2.heap.size by have := hz2.out; omega)
  have l3 := hid hB3.lt
  clear hB1 hb1 hz1 hB2 hb2 hz2 hB3 hb3
  generalize w1.heap.size = g2 at *
  generalize w2.heap.size = g3 at *
  obtain ⟨a0, a1, a2, a3⟩ := two_facts X1.out
  go_wp2_with (first
    | ((with_reducible refine (hM.out _ (HH.out.below X0.out)).mono ?_); rintro e w3 ⟨rfl, hb3⟩; clear a0 a1 a2 a3; have X0 := hid (below_chain X0.out hb3); have X1 := hid (X1.out.belowS hb3); have X2 := hid (X2.out.belowS hb3); have X3 := hid (X3.out.belowS hb3); have l3 := hid (show g3 < w3.heap.size by have := l3.out; have := (hb3).size; omega); obtain ⟨a0, a1, a2, a3⟩ := two_facts X1.out)
    | ((with_reducible refine (hFi.out _ (HH.out.below X0.out)).mono ?_); rintro e w4 ⟨rfl, hb4⟩; clear a0 a1 a2 a3; have X0 := hid (below_chain X0.out hb4); have X1 := hid (X1.out.belowS hb4); have X2 := hid (X2.out.belowS hb4); have X3 := hid (X3.out.belowS hb4); have l3 := hid (show g3 < w4.heap.size by have := l3.out; have := (hb4).size; omega); obtain ⟨a0, a1, a2, a3⟩ := two_facts X1.out)
    | ((with_reducible refine at_build 24 ?_); refine wpList_bd rfl 24 rfl _ (hub_built _) ?_)
    | ((with_reducible refine at_build 36 ?_); refine wpList_bd rfl 36 rfl _ (hzb.out _) ?_)
    | ((with_reducible refine at_store (x := .tmp 4) 24 ?_); refine wpList_str rfl 24 _ _ rfl g2 _ rfl rfl _ _ X2.out rfl (hub_size _ _) (one_hub _ _ _ _) ?_; intro v8 hV8 hg8 hy; clear hy)
    | ((with_reducible refine at_store (x := .tmp 5) 36 ?_); refine wpList_str rfl 36 _ _ rfl g3 Z rfl rfl _ _ (X3.out.grown hg8 (fun e => by have := Option.some.inj e; have := l2.out; omega)) rfl hsaZ honeZ.out ?_; intro v9 hV9 hg9 hy; clear hy))
  have hV9' := hV8.grown hg9 (fun e => by have := Option.some.inj e; have := l2.out; omega)
  have hbf := below_set (below_set X0.out hg8 (by have := l1.out; omega)) hg9 (by have := l1.out; have := l2.out; omega)
  have hres := results_ccs (P := Tryd.prog) (fn := Tryd.f20) (p := 4) (q := 5) (t := 6) rfl
  refine bodyPost_ret (hres _ _ g2 g3 _ _ _ _ rfl rfl hV9' hV9 Tryd.underlying24 Tryd.underlying36 rfl rfl (hub_size _ _) hsaZ) rfl ?_
  exact ⟨none, 0, 0, [], rfl, rfl, HOwn.nil _ _ _, hbf⟩

set_option maxRecDepth 100000 in
set_option maxHeartbeats 8000000 in
theorem poll24_gone (h : Hub) (A : Option Addr) (n c : Nat) (id : Int) (w : World) (hh : HubIn w h A n) (hm : hubMay h = true) (s : Sub) (hp : h.2[place id h.2]? = some s) (hb : (takenT s.2.2.1 s.2.2.2).2.2.2 = false) :
    Calls Tryd.prog 20 #[.agg #[.int .i64 h.1, .slice A n c], .int .i64 id] w (GivesPH w (zeroHub, zeroIt, 6)) := by
  have hM := hid (fun W (k : HubIn W h A n) => hmay_any h A n c W k)
  have HH := hid hh
  have hzr : Hid (∀ W, (zeroValue 36).run Tryd.prog W = .ok (.agg (itL zeroIt).toArray) W) := hid zeroI_run
  have hzb : Hid (∀ W, (Instr.build 36 #[]).run Tryd.prog W = .ok (.agg (itL zeroIt).toArray) W) := hid zeroI_build
  have hsaZ := it_sizeA zeroIt zeroIt_ok
  have honeZ := hid (it_one zeroIt)
  have hu36 := Tryd.underlying36
  have hn16 := (hubMay_parts hm).2.1
  have hln := hh.len
  have hFi := hid (fun W (k : HubIn W h A n) => find24_any h A n c id W k (by omega))
  unfold GivesN at hFi
  have hpl : plT h.2 id = (place id h.2 : Int) := by unfold plT; rw [if_pos (List.getElem?_eq_some_iff.1 hp).1]
  rw [hpl] at hFi
  have hpn : place id h.2 < n := by have := (List.getElem?_eq_some_iff.1 hp).1; omega
  have hsl := hubMay_its1 hm s (List.mem_of_getElem? hp)
  have hTw := hid (fun W (k : HubIn W h A n) => twin24_any h A n c W k (by omega) (hubMay_its1 hm))
  unfold GivesH at hTw
  have hn1k : n ≤ 16 := by omega
  generalize place id h.2 = pl at *
  have t1 : (0 : Int) ≤ (pl : Int) := by omega
  have t2 : ¬ (pl : Int) < 0 := by omega
  have t3 : (pl : Int) < (n : Int) := by omega
  have hh2 := hh
  obtain ⟨rs, HR', HS'⟩ := hh2
  have HR := hid HR'
  have HS := hid HS'
  have hps := hp
  rw [← HS'] at hps
  obtain ⟨r, hxr, hrs⟩ := rows_at hps
  have HX := hid hxr
  have HP := hid hp
  have hok := (HR'.2 r (List.mem_of_getElem? hxr)).1
  obtain ⟨hto, htx⟩ := takenT_ok hok r.1.2.2.2
  have hrl := hid (HR'.2 r (List.mem_of_getElem? hxr)).len
  have hTk := hid (fun W (q : Rd W 0 101 r.2.1 r.2.2.1 (itsL r.1.2.2.1)) => taken_any r.2.1 r.2.2.1 r.2.2.2 r.1.2.2.2 r.1.2.2.1 hok W q (by have := hrl.out; rw [← hrs] at hsl; omega))
  subst hrs
  obtain ⟨⟨sid, fr, its, lost⟩, rA, rn, rc⟩ := r
  try dsimp only at *
  generalize htk : takenT its lost = tk at *
  obtain ⟨txs, tl, tx, tb⟩ := tk
  try dsimp only at *
  subst hb
  unfold GivesK at hTk
  try dsimp only at hTk
  have hszx := it_size tx htx
  have hszX := it_sizeA tx htx
  have hXZ := item_sz htx
  have honeX := hid (it_one tx)
  clear hpl hln hn16 hps hxr HR' HS' hok htk hsl hp
  generalize hXL : itL tx = XL at *
  have HXL := hid hXL
  clear hXL
  rw [hm] at hM
  clear hh hm
  obtain ⟨nx, ss⟩ := h
  try dsimp only at *
  unfold GivesPH
  try dsimp only
  generalize hZL : (itL zeroIt).toArray = Z at *
  have HZL := hid hZL
  clear hZL
  go_enter Tryd.func20, Tryd.ntmps20
  go_upto_region 1 with (first
    | (refine wpList_bx rfl 24 _ rfl #[.int .i64 nx, .slice A n c] rfl ?_; intro w1 hB1 hb1 hy; have hz1 := hid hy; clear hy)
    | ((with_reducible refine at_alloc (d := some 4) 24 ?_); refine wpList_al rfl 24 rfl _ (hub_zero _) ?_; intro w2 hB2 hb2 hy; have hz2 := hid hy; clear hy)
    | ((with_reducible refine at_alloc (d := some 5) 36 ?_); refine wpList_al rfl 36 rfl _ (hzr.out _) ?_; intro w3 hB3 hb3 hy; clear hy))
  have X0 := hid (below_chain (below_chain hb1 hb2) hb3)
  have X1 := hid ((hB1.belowS hb2).belowS hb3)
  have X2 := hid (hB2.belowS hb3)
  have X3 := hid hB3
  have l1 := hid (show w.heap.size < w1.heap.size by have := hz1.out; omega)
  have l2 := hid (show w1.heap.size < w2.heap.size by have := hz2.out; omega)
  have l3 := hid hB3.lt
  clear hB1 hb1 hz1 hB2 hb2 hz2 hB3 hb3
  generalize w1.heap.size = g2 at *
  generalize w2.heap.size = g3 at *
  obtain ⟨a0, a1, a2, a3⟩ := two_facts X1.out
  go_upto_region 6 with (first
    | ((with_reducible refine (hM.out _ (HH.out.below X0.out)).mono ?_); rintro e w3 ⟨rfl, hb3⟩; clear a0 a1 a2 a3; have X0 := hid (below_chain X0.out hb3); have X1 := hid (X1.out.belowS hb3); have X2 := hid (X2.out.belowS hb3); have X3 := hid (X3.out.belowS hb3); have l3 := hid (show g3 < w3.heap.size by have := l3.out; have := (hb3).size; omega); obtain ⟨a0, a1, a2, a3⟩ := two_facts X1.out)
    | ((with_reducible refine (hFi.out _ (HH.out.below X0.out)).mono ?_); rintro e w4 ⟨rfl, hb4⟩; clear a0 a1 a2 a3; have X0 := hid (below_chain X0.out hb4); have X1 := hid (X1.out.belowS hb4); have X2 := hid (X2.out.belowS hb4); have X3 := hid (X3.out.belowS hb4); have l3 := hid (show g3 < w4.heap.size by have := l3.out; have := (hb4).size; omega); obtain ⟨a0, a1, a2, a3⟩ := two_facts X1.out))
  obtain ⟨b, o, hA, hbl, rx⟩ := (HR.out.below X0.out).at_ HX.out
  have hri := hid ((HR.out.below X0.out).2 _ (List.mem_of_getElem? HX.out)).2
  subst hA
  obtain ⟨ad, had⟩ : ∃ ad, o + pl * 4 = ad := ⟨_, rfl⟩
  rw [had] at rx
  have x2 : w4.cell? ⟨b, ad + 2, none⟩ = some (.slice rA rn rc) := rx 2 _ rfl
  have x3 : w4.cell? ⟨b, ad + 2 + 1, none⟩ = some (.bool lost) := rx 3 _ rfl
  have hb0 := hid hbl
  clear rx hbl
  go_wp2_with (first
    | ((with_reducible refine (hTk.out _ hri.out).mono ?_); rintro e w5 ⟨T, tm, tc, rfl, hT, hb5⟩; clear x2 x3)
    | ((with_reducible refine at_alloc (d := some 8) 47 ?_); refine wpList_al rfl 47 rfl _ (tap_zero _) ?_; intro w6 hB6 hb6 hy; clear hy)
    | ((with_reducible refine at_alloc (d := some 9) 36 ?_); refine wpList_al rfl 36 rfl _ (hzr.out _) ?_; intro w7 hB7 hb7 hy; clear hy)
    | ((with_reducible refine at_store (x := .tmp 8) 47 ?_); refine wpList_str rfl 47 _ _ rfl w5.heap.size _ rfl rfl _ _ (hB6.belowS hb7) rfl (tap_size _ _) (one_tap _ _ _ _) ?_; intro w8 hB8 hg8 hy; clear hy; have l68 := hB6.lt; have B7 := hB7.grown hg8 (fun e => by have := Option.some.inj e; omega))
    | ((with_reducible refine at_store (x := .tmp 9) 36 ?_); refine wpList_str rfl 36 _ _ rfl w6.heap.size XL.toArray rfl rfl _ _ B7 hXZ hsaZ honeX.out ?_; intro w9 hB9 hg9 hy; clear hy; have q8 : Below w5.heap.size w5 w8 := (below_chain hb6 hb7).grown hg8 (below_chain hb6 hb7).size (by intro k e; cases e; exact Nat.le_refl _); have q9 : Below w5.heap.size w5 w9 := q8.grown hg9 q8.size (by intro k e; cases e; omega); have X8 := hid (hB8.grown hg9 (fun e => by have := Option.some.inj e; omega)); have X9 := hid hB9; have FT := hid (hT.below q9); have l4 := hid hb5.size; have q := below_chain hb5 q9; have l8 := hid (show w5.heap.size < w6.heap.size from l68); have l9 := hid X9.out.lt; have FL := hid (fun (hm : 0 < tm) b o (e : T = some ⟨b, o, none⟩) => (show b < w5.heap.size by obtain ⟨b', o', e', _, hlt, _⟩ := hT.1.lt (by omega); rw [e] at e'; cases e'; exact hlt)); clear a0 a1 a2 a3; have X0 := hid (below_chain X0.out q); have X1 := hid (X1.out.belowS q); have X2 := hid (X2.out.belowS q); have X3 := hid (X3.out.belowS q); have l3 := hid (show g3 < w9.heap.size by have := l3.out; have := (q).size; omega); obtain ⟨a0, a1, a2, a3⟩ := two_facts X1.out; clear hT hb5 hB6 hb6 hB7 hb7 hB8 hg8 l68 B7 hB9 hg9 q8 q9 q; obtain ⟨b0, b1, b2, b3⟩ := two_facts X8.out)
    | ((with_reducible refine at_build 24 ?_); refine wpList_bd rfl 24 rfl _ (hub_built _) ?_)
    | ((with_reducible refine at_build 36 ?_); refine wpList_bd rfl 36 rfl _ (hzb.out _) ?_)
    | ((with_reducible refine at_store (x := .tmp 4) 24 ?_); refine wpList_str rfl 24 _ _ rfl g2 _ rfl rfl _ _ X2.out rfl (hub_size _ _) (one_hub _ _ _ _) ?_; intro v8 hV8 hg8 hy; clear hy)
    | ((with_reducible refine at_store (x := .tmp 5) 36 ?_); refine wpList_str rfl 36 _ _ rfl g3 Z rfl rfl _ _ (X3.out.grown hg8 (fun e => by have := Option.some.inj e; have := l2.out; omega)) rfl hsaZ honeZ.out ?_; intro v9 hV9 hg9 hy; clear hy))
  have hV9' := hV8.grown hg9 (fun e => by have := Option.some.inj e; have := l2.out; omega)
  have hbf := below_set (below_set X0.out hg8 (by have := l1.out; omega)) hg9 (by have := l1.out; have := l2.out; omega)
  have hres := results_ccs (P := Tryd.prog) (fn := Tryd.f20) (p := 4) (q := 5) (t := 6) rfl
  refine bodyPost_ret (hres _ _ g2 g3 _ _ _ _ rfl rfl hV9' hV9 Tryd.underlying24 Tryd.underlying36 rfl rfl (hub_size _ _) hsaZ) rfl ?_
  exact ⟨none, 0, 0, [], rfl, rfl, HOwn.nil _ _ _, hbf⟩

set_option maxRecDepth 100000 in
set_option maxHeartbeats 8000000 in
theorem poll24_ok (h : Hub) (A : Option Addr) (n c : Nat) (id : Int) (w : World) (hh : HubIn w h A n) (hm : hubMay h = true) (s : Sub) (hp : h.2[place id h.2]? = some s) (hb : (takenT s.2.2.1 s.2.2.2).2.2.2 = true) :
    Calls Tryd.prog 20 #[.agg #[.int .i64 h.1, .slice A n c], .int .i64 id] w (GivesPH w ((h.1, h.2.set (place id h.2) (s.1, s.2.1, (takenT s.2.2.1 s.2.2.2).1, (takenT s.2.2.1 s.2.2.2).2.1)), (takenT s.2.2.1 s.2.2.2).2.2.1, 0)) := by
  have hM := hid (fun W (k : HubIn W h A n) => hmay_any h A n c W k)
  have HH := hid hh
  have hzr : Hid (∀ W, (zeroValue 36).run Tryd.prog W = .ok (.agg (itL zeroIt).toArray) W) := hid zeroI_run
  have hzb : Hid (∀ W, (Instr.build 36 #[]).run Tryd.prog W = .ok (.agg (itL zeroIt).toArray) W) := hid zeroI_build
  have hsaZ := it_sizeA zeroIt zeroIt_ok
  have honeZ := hid (it_one zeroIt)
  have hu36 := Tryd.underlying36
  have hn16 := (hubMay_parts hm).2.1
  have hln := hh.len
  have hFi := hid (fun W (k : HubIn W h A n) => find24_any h A n c id W k (by omega))
  unfold GivesN at hFi
  have hpl : plT h.2 id = (place id h.2 : Int) := by unfold plT; rw [if_pos (List.getElem?_eq_some_iff.1 hp).1]
  rw [hpl] at hFi
  have hpn : place id h.2 < n := by have := (List.getElem?_eq_some_iff.1 hp).1; omega
  have hsl := hubMay_its1 hm s (List.mem_of_getElem? hp)
  have hTw := hid (fun W (k : HubIn W h A n) => twin24_any h A n c W k (by omega) (hubMay_its1 hm))
  unfold GivesH at hTw
  have hn1k : n ≤ 16 := by omega
  generalize place id h.2 = pl at *
  have t1 : (0 : Int) ≤ (pl : Int) := by omega
  have t2 : ¬ (pl : Int) < 0 := by omega
  have t3 : (pl : Int) < (n : Int) := by omega
  have hh2 := hh
  obtain ⟨rs, HR', HS'⟩ := hh2
  have HR := hid HR'
  have HS := hid HS'
  have hps := hp
  rw [← HS'] at hps
  obtain ⟨r, hxr, hrs⟩ := rows_at hps
  have HX := hid hxr
  have HP := hid hp
  have hok := (HR'.2 r (List.mem_of_getElem? hxr)).1
  obtain ⟨hto, htx⟩ := takenT_ok hok r.1.2.2.2
  have hrl := hid (HR'.2 r (List.mem_of_getElem? hxr)).len
  have hTk := hid (fun W (q : Rd W 0 101 r.2.1 r.2.2.1 (itsL r.1.2.2.1)) => taken_any r.2.1 r.2.2.1 r.2.2.2 r.1.2.2.2 r.1.2.2.1 hok W q (by have := hrl.out; rw [← hrs] at hsl; omega))
  subst hrs
  obtain ⟨⟨sid, fr, its, lost⟩, rA, rn, rc⟩ := r
  try dsimp only at *
  generalize htk : takenT its lost = tk at *
  obtain ⟨txs, tl, tx, tb⟩ := tk
  try dsimp only at *
  subst hb
  unfold GivesK at hTk
  try dsimp only at hTk
  have hszx := it_size tx htx
  have hszX := it_sizeA tx htx
  have hXZ := item_sz htx
  have honeX := hid (it_one tx)
  clear hpl hln hn16 hps hxr HR' HS' hok htk hsl hp
  generalize hXL : itL tx = XL at *
  have HXL := hid hXL
  clear hXL
  rw [hm] at hM
  clear hh hm
  obtain ⟨nx, ss⟩ := h
  try dsimp only at *
  unfold GivesPH
  try dsimp only
  generalize hZL : (itL zeroIt).toArray = Z at *
  have HZL := hid hZL
  clear hZL
  go_enter Tryd.func20, Tryd.ntmps20
  go_upto_region 1 with (first
    | (refine wpList_bx rfl 24 _ rfl #[.int .i64 nx, .slice A n c] rfl ?_; intro w1 hB1 hb1 hy; have hz1 := hid hy; clear hy)
    | ((with_reducible refine at_alloc (d := some 4) 24 ?_); refine wpList_al rfl 24 rfl _ (hub_zero _) ?_; intro w2 hB2 hb2 hy; have hz2 := hid hy; clear hy)
    | ((with_reducible refine at_alloc (d := some 5) 36 ?_); refine wpList_al rfl 36 rfl _ (hzr.out _) ?_; intro w3 hB3 hb3 hy; clear hy))
  have X0 := hid (below_chain (below_chain hb1 hb2) hb3)
  have X1 := hid ((hB1.belowS hb2).belowS hb3)
  have X2 := hid (hB2.belowS hb3)
  have X3 := hid hB3
  have l1 := hid (show w.heap.size < w1.heap.size by have := hz1.out; omega)
  have l2 := hid (show w1.heap.size < w2.heap.size by have := hz2.out; omega)
  have l3 := hid hB3.lt
  clear hB1 hb1 hz1 hB2 hb2 hz2 hB3 hb3
  generalize w1.heap.size = g2 at *
  generalize w2.heap.size = g3 at *
  obtain ⟨a0, a1, a2, a3⟩ := two_facts X1.out
  go_upto_region 6 with (first
    | ((with_reducible refine (hM.out _ (HH.out.below X0.out)).mono ?_); rintro e w3 ⟨rfl, hb3⟩; clear a0 a1 a2 a3; have X0 := hid (below_chain X0.out hb3); have X1 := hid (X1.out.belowS hb3); have X2 := hid (X2.out.belowS hb3); have X3 := hid (X3.out.belowS hb3); have l3 := hid (show g3 < w3.heap.size by have := l3.out; have := (hb3).size; omega); obtain ⟨a0, a1, a2, a3⟩ := two_facts X1.out)
    | ((with_reducible refine (hFi.out _ (HH.out.below X0.out)).mono ?_); rintro e w4 ⟨rfl, hb4⟩; clear a0 a1 a2 a3; have X0 := hid (below_chain X0.out hb4); have X1 := hid (X1.out.belowS hb4); have X2 := hid (X2.out.belowS hb4); have X3 := hid (X3.out.belowS hb4); have l3 := hid (show g3 < w4.heap.size by have := l3.out; have := (hb4).size; omega); obtain ⟨a0, a1, a2, a3⟩ := two_facts X1.out))
  obtain ⟨b, o, hA, hbl, rx⟩ := (HR.out.below X0.out).at_ HX.out
  have hri := hid ((HR.out.below X0.out).2 _ (List.mem_of_getElem? HX.out)).2
  subst hA
  obtain ⟨ad, had⟩ : ∃ ad, o + pl * 4 = ad := ⟨_, rfl⟩
  rw [had] at rx
  have x2 : w4.cell? ⟨b, ad + 2, none⟩ = some (.slice rA rn rc) := rx 2 _ rfl
  have x3 : w4.cell? ⟨b, ad + 2 + 1, none⟩ = some (.bool lost) := rx 3 _ rfl
  have hb0 := hid hbl
  clear rx hbl
  go_upto_region 10 with (first
    | ((with_reducible refine (hTk.out _ hri.out).mono ?_); rintro e w5 ⟨T, tm, tc, rfl, hT, hb5⟩; clear x2 x3)
    | ((with_reducible refine at_alloc (d := some 8) 47 ?_); refine wpList_al rfl 47 rfl _ (tap_zero _) ?_; intro w6 hB6 hb6 hy; clear hy)
    | ((with_reducible refine at_alloc (d := some 9) 36 ?_); refine wpList_al rfl 36 rfl _ (hzr.out _) ?_; intro w7 hB7 hb7 hy; clear hy)
    | ((with_reducible refine at_store (x := .tmp 8) 47 ?_); refine wpList_str rfl 47 _ _ rfl w5.heap.size _ rfl rfl _ _ (hB6.belowS hb7) rfl (tap_size _ _) (one_tap _ _ _ _) ?_; intro w8 hB8 hg8 hy; clear hy; have l68 := hB6.lt; have B7 := hB7.grown hg8 (fun e => by have := Option.some.inj e; omega))
    | ((with_reducible refine at_store (x := .tmp 9) 36 ?_); refine wpList_str rfl 36 _ _ rfl w6.heap.size XL.toArray rfl rfl _ _ B7 hXZ hsaZ honeX.out ?_; intro w9 hB9 hg9 hy; clear hy; have q8 : Below w5.heap.size w5 w8 := (below_chain hb6 hb7).grown hg8 (below_chain hb6 hb7).size (by intro k e; cases e; exact Nat.le_refl _); have q9 : Below w5.heap.size w5 w9 := q8.grown hg9 q8.size (by intro k e; cases e; omega); have X8 := hid (hB8.grown hg9 (fun e => by have := Option.some.inj e; omega)); have X9 := hid hB9; have FT := hid (hT.below q9); have l4 := hid hb5.size; have q := below_chain hb5 q9; have l8 := hid (show w5.heap.size < w6.heap.size from l68); have l9 := hid X9.out.lt; have FL := hid (fun (hm : 0 < tm) b o (e : T = some ⟨b, o, none⟩) => (show b < w5.heap.size by obtain ⟨b', o', e', _, hlt, _⟩ := hT.1.lt (by omega); rw [e] at e'; cases e'; exact hlt)); clear a0 a1 a2 a3; have X0 := hid (below_chain X0.out q); have X1 := hid (X1.out.belowS q); have X2 := hid (X2.out.belowS q); have X3 := hid (X3.out.belowS q); have l3 := hid (show g3 < w9.heap.size by have := l3.out; have := (q).size; omega); obtain ⟨a0, a1, a2, a3⟩ := two_facts X1.out; clear hT hb5 hB6 hb6 hB7 hb7 hB8 hg8 l68 B7 hB9 hg9 q8 q9 q; obtain ⟨b0, b1, b2, b3⟩ := two_facts X8.out)
    | ((with_reducible refine (hTw.out _ (HH.out.below X0.out)).mono ?_); rintro e w10 ⟨D, m, d, rs', rfl, hsub, hO, hb10⟩)
    | ((with_reducible refine at_alloc (d := some 11) 24 ?_); refine wpList_al rfl 24 rfl _ (hub_zero _) ?_; intro w11 hB11 hb11 hy; clear hy)
    | ((with_reducible refine at_store (x := .tmp 11) 24 ?_); refine wpList_str rfl 24 _ _ rfl w10.heap.size _ rfl rfl _ _ hB11 rfl (hub_size _ _) (one_hub _ _ _ _) ?_; intro w12 hB12 hg12 hy; clear hy))
  have q12 : Below w10.heap.size w10 w12 := hb11.grown hg12 hb11.size (by intro k e; cases e; exact Nat.le_refl _)
  have q := below_chain hb10 q12
  have X0 := hid (below_chain X0.out q)
  have X2 := hid (X2.out.belowS q)
  have X3 := hid (X3.out.belowS q)
  have X8 := hid (X8.out.belowS q)
  have X9 := hid (X9.out.belowS q)
  have X11 := hid hB12
  have FT := hid (FT.out.below q)
  have HO := hid (hO.below q12)
  have HA := hid (hO.apart (g := w10.heap.size) (Nat.le_refl _))
  have HSb := hid hsub
  have l10 := hid hb10.size
  have l11 := hid hB12.lt
  clear a0 a1 a2 a3 b0 b1 b2 b3 X1 hO hsub hb10 hB11 hb11 hB12 hg12 q12 q
  generalize w10.heap.size = g11 at *
  generalize w5.heap.size = g8 at *
  generalize w6.heap.size = g9 at *
  generalize w9.heap.size = lo at *
  generalize w4.heap.size = lt at *
  have hml : m = ss.length := by have h1 := HO.out.len; rw [← HSb.out]; simp [subs]; omega
  have hssl : ss.length = n := by have := HR.out.len; rw [← HS.out]; simp [subs]; omega
  have hmn : m = n := by omega
  clear hml hssl
  subst hmn
  obtain ⟨g, hDe, hrow, hgl, hgw⟩ := HO.out.1.base (by omega)
  subst hDe
  have hps2 : (subs rs')[pl]? = some (sid, fr, its, lost) := by rw [HSb.out]; exact HP.out
  obtain ⟨r', hx', hr'⟩ := rows_at hps2
  obtain ⟨t4, t5, t6, t7, f4, f5, f6, f7⟩ := HO.out.1.tapAt hx'
  obtain ⟨b0, b1, b2, b3⟩ := two_facts X8.out
  obtain ⟨c0, c1, c2, c3⟩ := two_facts X11.out
  have HX' := hid hx'
  have n1 : g ≠ g11 := fun e => HA.out.1 (by rw [hrow, e])
  have n2 : g ≠ g2 := by have := l2.out; have := l3.out; have := l4.out; have := l8.out; have := l9.out; omega
  have n3 : g ≠ g3 := by have := l3.out; have := l4.out; have := l8.out; have := l9.out; omega
  have n9 : g ≠ g9 := by have := l9.out; omega
  clear hps2 hx' t4 t5 f4 f5
  go_upto_region 11 with fail
  have hC := tap_set_chg w12 g (pl * 4 + 2) (pl * 4 + 2 + 1) (.slice T tm tc) (.bool tl)
  have H1 := hid (hown_settap2 (l := tl) (c' := tc) (HO.out.low (lo' := lt) (by have := l4.out; have := l8.out; have := l9.out; omega)) hrow HX'.out hto FT.out (fun hm b o e => by have := FL.out hm b o e; have := l8.out; have := l9.out; omega))
  have X0 := hid (below_of_chg X0.out hC (fun b e => by have e2 : b = g := e; have := l1.out; have := l2.out; have := l3.out; have := l4.out; have := l8.out; have := l9.out; omega))
  have X2 := hid (hC.blk X2.out (fun e => n2 e.symm))
  have X3 := hid (hC.blk X3.out (fun e => n3 e.symm))
  have X9 := hid (hC.blk X9.out (fun e => n9 e.symm))
  have X11 := hid (hC.blk X11.out (fun e => n1 e.symm))
  clear hC FT b0 b1 b2 b3 c0 c1 c2 c3 t6 t7 f6 f7
  generalize (w12.setCell ⟨g, pl * 4 + 2, none⟩ (.slice T tm tc)).setCell ⟨g, pl * 4 + 2 + 1, none⟩ (.bool tl) = w14 at *
  generalize hDD : (some ⟨g, 0, none⟩ : Option Addr) = D at *
  have X2 := hid X2.out.drew
  have X3 := hid X3.out.drew
  have X9 := hid X9.out.drew
  have X11 := hid X11.out.drew
  obtain ⟨c0, c1, _, _⟩ := two_facts X11.out
  have n5 : g2 ≠ g3 := by have := l2.out; omega
  have n6 : g11 ≠ g2 := by have := l2.out; have := l3.out; have := l4.out; have := l8.out; have := l9.out; have := l10.out; omega
  have n7 : g11 ≠ g3 := by have := l3.out; have := l4.out; have := l8.out; have := l9.out; have := l10.out; omega
  have n8 : g9 ≠ g2 := by have := l2.out; have := l3.out; have := l4.out; have := l8.out; omega
  have n10 : g9 ≠ g3 := by have := l3.out; have := l4.out; have := l8.out; omega
  refine wp_region_held_drew (S := (fun w' => w'.cell? ⟨g11, 0, none⟩ = some (.int .i64 nx) ∧ w'.cell? ⟨g11, 1, none⟩ = some (.slice D m d) ∧ w'.rangeAt g9 0 XL)) (by kernel_rfl) ⟨c0, c1, X9.out.range0⟩ (fun hHeld => ?_)
  refine reg_take (v := ?_) 0 rfl (by kernel_rfl) (by kernel_rfl) (by kernel_rfl) (fun _ _ _ h => h) (Or.inl ⟨by rfl, ?_⟩) (by assumption) ?_; rotate_left; (intro w hSw; (try dsimp only at hSw); go_simp); (try with_reducible rfl); (try simp only [Act.put, List.setIfInBounds_toArray, List.set_cons_zero, List.set_cons_succ])
  refine reg_take 1 rfl (by kernel_rfl) (by kernel_rfl) (by kernel_rfl) (fun _ _ _ h => h) (yieldsIf_load_mid (by rfl) _ _ rfl _ _ rfl _ _ (by intro w hSw; (try dsimp only at hSw); go_split_ands; assumption) (by assumption) (by rfl) (by assumption)) (by assumption) ?_; (try simp only [Act.put, List.setIfInBounds_toArray, List.set_cons_zero, List.set_cons_succ])
  refine reg_only 2 rfl (by kernel_rfl) (fun K hK => ?_); refine step_str rfl 24 _ _ rfl g2 #[.int .i64 nx, .slice D m d] rfl rfl _ _ X2.out rfl (hub_size _ _) (one_hub _ _ _ _) ?_; intro v8 hV8 hg8 hy; clear hy; have Y11 := X11.out.grown hg8 (fun e => n6 (Option.some.inj e)); have Y9 := X9.out.grown hg8 (fun e => n8 (Option.some.inj e)); have Y3 := X3.out.grown hg8 (fun e => n5 (Option.some.inj e).symm); obtain ⟨q0, q1, _, _⟩ := two_facts Y11; refine hK.out _ _ ?_ (fun hHeld => ?_); (exact ⟨q0, q1, Y9.range0⟩); clear hK K; (try simp only [Act.put, List.setIfInBounds_toArray, List.set_cons_zero, List.set_cons_succ])
  refine reg_only 3 rfl (by kernel_rfl) (fun K hK => ?_); refine step_str rfl 36 _ _ rfl g3 XL.toArray rfl rfl _ _ Y3 hXZ (hsaZ) honeX.out ?_; intro v9 hV9 hg9 hy; clear hy; have W11 := Y11.grown hg9 (fun e => n7 (Option.some.inj e)); have W9 := Y9.grown hg9 (fun e => n10 (Option.some.inj e)); have W2 := hV8.grown hg9 (fun e => n5 (Option.some.inj e)); obtain ⟨q0, q1, _, _⟩ := two_facts W11; refine hK.out _ _ ?_ (fun hHeld => ?_); (exact ⟨q0, q1, W9.range0⟩); clear hK K; (try simp only [Act.put, List.setIfInBounds_toArray, List.set_cons_zero, List.set_cons_succ])
  refine reg_take (v := ?_) 4 rfl (by kernel_rfl) (by kernel_rfl) (by kernel_rfl) (fun _ _ _ h => h) (Or.inl ⟨by rfl, ?_⟩) (by assumption) ?_; rotate_left; (intro w hSw; (try dsimp only at hSw); go_simp); (try with_reducible rfl); (try simp only [Act.put, List.setIfInBounds_toArray, List.set_cons_zero, List.set_cons_succ])
  refine wpAnyH_done (by kernel_rfl) ?_ _
  have hHf := ((show HOwn w14.drew lt D m d _ from H1.out.below (below_self_drew w14)).grown hg8 (by have := l2.out; have := l3.out; omega)).grown hg9 (by have := l3.out; omega)
  have hbf := below_set (below_set (below_drew1 X0.out) hg8 (by have := l1.out; omega)) hg9 (by have := l1.out; have := l2.out; omega)
  have hlo := hid (show w.heap.size ≤ lt by have := l1.out; have := l2.out; have := l3.out; omega)
  go_wp2
  have hres := results_ccs (P := Tryd.prog) (fn := Tryd.f20) (p := 4) (q := 5) (t := 6) rfl
  refine bodyPost_ret (hres _ _ g2 g3 _ _ _ _ rfl rfl W2 hV9 Tryd.underlying24 Tryd.underlying36 rfl rfl (hub_size _ _) hszX) rfl ?_
  refine ⟨D, m, d, _, by rw [HXL.out]; rfl, ?_, hHf.low hlo.out, hbf⟩
  rw [subs_set, HSb.out]
  have e1 := congrArg (fun q : Sub => q.1) hr'
  have e2 := congrArg (fun q : Sub => q.2.1) hr'
  dsimp only at e1 e2 ⊢
  rw [e1, e2]

theorem poll24_any (h : Hub) (A : Option Addr) (n c : Nat) (id : Int) (w : World) (hh : HubIn w h A n) :
    Calls Tryd.prog 20 #[.agg #[.int .i64 h.1, .slice A n c], .int .i64 id] w (GivesPH w (pollHT h id)) := by
  unfold pollHT
  cases hm : hubMay h with
  | false => exact poll24_bad h A n c id w hh hm
  | true =>
    rw [if_pos rfl]
    cases hp : h.2[place id h.2]? with
    | none => exact poll24_none h A n c id w hh hm (by have := List.getElem?_eq_none_iff.1 hp; omega)
    | some s =>
      have hi := (subsMay_lt (hubMay_parts hm).2.2 s (List.mem_of_getElem? hp)).2.2.2
      have hps : pollST s = ((s.1, s.2.1, (takenT s.2.2.1 s.2.2.2).1, (takenT s.2.2.1 s.2.2.2).2.1), (takenT s.2.2.1 s.2.2.2).2.2.1, if (takenT s.2.2.1 s.2.2.2).2.2.2 then 0 else 6) := by
        unfold pollST
        rw [taken_poll hi]
      simp only [hps]
      cases hb : (takenT s.2.2.1 s.2.2.2).2.2.2 with
      | true =>
        rw [if_pos rfl]
        exact poll24_ok h A n c id w hh hm s hp hb
      | false =>
        rw [if_neg (by simp)]
        have hz : (takenT s.2.2.1 s.2.2.2).2.2.1 = zeroIt := by
          revert hb
          unfold takenT
          cases s.2.2.1 with
          | nil => cases s.2.2.2 <;> simp
          | cons x l => simp
        rw [hz]
        exact poll24_gone h A n c id w hh hm s hp hb
end Go.Proofs.YtmepbokoopgmiaaDoor
