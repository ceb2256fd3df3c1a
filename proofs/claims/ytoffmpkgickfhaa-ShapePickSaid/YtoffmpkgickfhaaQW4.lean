/- Parts of the proof of YtoffmpkgickfhaaLawShapePick: printed walks, their words, and plain laws. -/
import Derived.Test.YtoffmpkgickfhaaQW1
import Derived.Test.YtoffmpkgickfhaaQW3
import Derived.Test.YtoffmpkgickfhaaQW2
import Derived.WalkSpells
import Derived.IntWalk
import Derived.Lib.SliceRun
import Derived.Shelf.GgSortFunc.InsertionK
import Derived.Shelf.SlicesQ.Reverse
import Derived.Shelf.SlSortCmp.NoneTotal
import Derived.Ground.SlgnProg
import Derived.Ground.SlsfProg
import Derived.Shelf.SlGeneric
import Derived.Test.YtoffmpkgickfhaaProg
section
namespace Go.Proofs.Ytoffmpkgickfhaa.PG
open Go.RowKit Go.Proofs.YtoffmpkgickfhaaW.PrintWords Go.Proofs.YtoffmpkgickfhaaW.PrintLast Go.Proofs.YtoffmpkgickfhaaW.PrintMore
attribute [local go_sem] max2_int min2_int max_two min_two max_three min_three max_four min_four
set_option linter.unusedVariables false
set_option linter.unusedSimpArgs false
/-! ### shape_chain: function 55 -/
mutual
def shape_chain.l0 : Nat → List (S29) → List (S29) → Int → Int → Option ((List (S29)))
 | 0, _, _, _, _ => none
 | k + 1, x3, x7, x8, x9 => if x9 < x8 then (if 0 ≤ x9 then (if x9 < (x7.length : Int) then (shape_chain.l1 k x3 (x3.length : Int) x7 x8 x9 ((rd_T29 x7 x9).f0) ((rd_T29 x7 x9).f1)) else (none)) else (none)) else (some x3)
def shape_chain.l1 : Nat → List (S29) → Int → List (S29) → Int → Int → Int → Int → Option ((List (S29)))
 | 0, _, _, _, _, _, _, _ => none
 | k + 1, x3, x6, x7, x8, x9, x103000, x103001 => if x6 ≥ 2 then (if 0 ≤ (wrap64 (x6 - 2)) then (if (wrap64 (x6 - 2)) < (x3.length : Int) then (if 0 ≤ (wrap64 (x6 - 1)) then (if (wrap64 (x6 - 1)) < (x3.length : Int) then ((shape_side.f ((rd_T29 x3 (wrap64 (x6 - 2))).f0) ((rd_T29 x3 (wrap64 (x6 - 2))).f1) ((rd_T29 x3 (wrap64 (x6 - 1))).f0) ((rd_T29 x3 (wrap64 (x6 - 1))).f1) x103000 x103001).bind fun t105 => (if t105 ≤ 0 then (if (wrap64 (x6 - 1)) ≤ (x3.length : Int) then ((some (x3.take ((wrap64 (x6 - 1)) : Int).toNat : List (S29))).bind fun y106 => (shape_chain.l1 k y106 (y106.length : Int) x7 x8 x9 x103000 x103001)) else (none)) else (if x3.length < 8796093022208 then (shape_chain.l0 k (x3 ++ [(⟨x103000, x103001⟩ : S29)]) x7 x8 (wrap64 (x9 + 1))) else (none)))) else (none)) else (none)) else (none)) else (none)) else (if x3.length < 8796093022208 then (shape_chain.l0 k (x3 ++ [(⟨x103000, x103001⟩ : S29)]) x7 x8 (wrap64 (x9 + 1))) else (none))
end
def shape_chain.f (k : Nat) (l0 : List (S29)) : Option ((List (S29))) := shape_chain.l0 k ([] : List (S29)) l0 (l0.length : Int) 0
def shape_chain.T6 : Bool × List (List Nat × List Nat) := (true, [([], []), ([0], [0]), ([1], [1]), ([2], [2]), ([2], [2]), ([4, 2], [2, 4]), ([3, 5, 2], [2, 3, 5]), ([6, 2], [2, 6]), ([2], [2]), ([2], [2]), ([9, 2], [2, 9]), ([8, 10, 2], [2, 8, 10]), ([11, 2], [2, 11]), ([2], [2]), ([7, 12, 13, 2, 2], [2, 7, 12, 13]), ([14, 2], [2, 14]), ([2, 15], [2, 15])])
def shape_chain.B6 : List Nat := [0, 1, 3, 7, 7, 23, 63, 127, 7, 7, 519, 1799, 3847, 7, 16383, 32767, 65535]
theorem shape_chain.tab6 : rtab .any (opsOf Try.f55 6) = shape_chain.T6 := by kernel_rfl
theorem shape_chain.bits6 : waitsOk shape_chain.T6.2 shape_chain.B6 = true := by kernel_rfl
set_option maxHeartbeats 8000000 in
set_option maxRecDepth 100000 in
theorem shape_chain.calls (k : Nat) (A0 : Option Addr) (c0 : Nat) (l0 : List (S29)) (r : List (S29)) (w : World) (hr0 : Kd.C k29 w A0 l0.length l0) (hc0 : l0.length ≤ c0) (h : shape_chain.f k l0 = some r) :
  Calls Try.prog 55 #[.slice A0 l0.length c0] w fun e w' => ∃ v0_ : Value, e = .returned (v0_) ∧ Kd.R k29 29 w' w.heap.size (fun _ => True) v0_ r ∧ Below w.heap.size w w' := by
 have hu29 := Try.underlying29
 have HR0 := Aside0.mk hr0
 have HC0 := Aside0.mk hc0
 clear hr0 hc0
 have HB := Aside0.mk (Below.refl w.heap.size w)
 have H : (shape_chain.l0 k ([] : List (S29)) l0 (l0.length : Int) 0) = some r := h
 clear h
 have H' := Aside0.mk H
 clear H
 go_enter Try.func55, Try.ntmps55
 go_wp2
 go_loopg [3, 9] k (fun kq v3 v9 w' => ∃ (x3_1 : List (S29)) (x9_1 : Int), v9 = .int .i64 x9_1 ∧ Aside0 (shape_chain.l0 kq x3_1 l0 (l0.length : Int) x9_1 = some r) ∧ Aside0 (kq ≤ k) ∧ Aside0 (Kd.R k29 29 w' w.heap.size (fun _ => True) v3 x3_1) ∧ Aside0 (Below w.heap.size w w'))
 case atStart => exact ⟨(([] : List (S29))), (0), sd, H', ⟨Nat.le_refl _⟩, ⟨by first | exact Kd.R_nil _ _ _ _ _ | exact Kd.N_nil _ _ _ _ _ | exact Kd.V_nil _ _ _ _ _ | exact Kd.Q_nil _ _ _ _ _ | exact Kd.S_nil _ _ _ _ _⟩, ⟨bh⟩⟩
 case round =>
  clear H'
  obtain ⟨x3_1, x9_1, rfl, HA, HK1, HO_3, HB⟩ := hrel
  cases gk with
  | zero => exact absurd HA.out (by simp [shape_chain.l0])
  | succ k1 =>
   have H := HA.out
   clear HA
   simp only [shape_chain.l0] at H
   by_cases c2 : x9_1 < (l0.length : Int)
   ·rw [if_pos c2] at H
    have c2b0 := decide_eq_true c2
    clear c2
    replace H := oi H
    obtain ⟨c3, H⟩ := H
    have c3b0 := decide_eq_true c3
    clear c3
    replace H := oi H
    obtain ⟨c4, H⟩ := H
    have c4b0 := decide_eq_true c4
    clear c4
    have H' := Aside0.mk H
    clear H
    have p101 : 0 ≤ (x9_1 : Int) := dt
    have q101 : x9_1 < (l0.length : Int) := dt
    obtain ⟨ad101, e101, hx101_0, hx101_1⟩ := at_T29 HR0.out x9_1 p101 q101
    cases e101
    replace hx101_0 := hc HB hx101_0
    replace hx101_1 := hc HB hx101_1
    replace p101 := eq_true p101
    replace q101 := eq_true q101
    go_wp2_with (first | ((with_reducible refine gate_dst (N := 5) rfl ?_); refine bxe 5 #[.int .i64 0, .int .i64 0] 29 ?_; intro gb102 hg w5 hbox hb; have BK102 := Aside0.mk (hbox); have GW102 := Aside0.mk (gs hg : w.heap.size ≤ gb102); have GE102 := Aside0.mk (gs hg : w.heap.size ≤ gb102); replace HO_3 := Aside0.mk (Kd.R_below (Kd.R_elderB (ro HO_3) gb102 (Nat.le_of_eq hg.symm)) hb); replace HB := Aside0.mk (below_step bh hb); clear hb hbox hg; have hcz6_0 : w5.cell? ⟨gb102, 0, none⟩ = some (.int .i64 0) := bc BK102 0; have hcz6_1 : w5.cell? ⟨gb102, 1, none⟩ = some (.int .i64 0) := bc BK102 1; have hfz6_0 := blk_frozen BK102.out 0; have hfz6_1 := blk_frozen BK102.out 1; obtain ⟨Ao7, co7, eo7⟩ := Kd.R_slice HO_3.out; subst eo7))
    go_loopg [3, 6] k1 (fun kq v3 v6 w' => ∃ (x3_2 : List (S29)) (x6_2 : Int), v6 = .int .i64 x6_2 ∧ Aside0 (shape_chain.l1 kq x3_2 x6_2 l0 (l0.length : Int) x9_1 ((rd_T29 l0 x9_1).f0) ((rd_T29 l0 x9_1).f1) = some r) ∧ Aside0 (kq ≤ k1) ∧ Aside0 (Kd.R k29 29 w' w.heap.size (fun k_ => k_ ≠ gb102) v3 x3_2) ∧ Aside0 (w'.heap[gb102]? = some (.cells #[.int .i64 ((rd_T29 l0 x9_1).f0), .int .i64 ((rd_T29 l0 x9_1).f1)] 29 (0, 0))) ∧ Aside0 (Below w.heap.size w w'))
    case atStart => exact ⟨(x3_1), ((x3_1.length : Int)), sd, H', ⟨Nat.le_refl _⟩, ⟨by (with_reducible repeat (first | apply Kd.R_alloc | apply Kd.R_drewN | apply Kd.R_drew)); exact Kd.R_mono (Kd.R_far (p := ⟨gb102, 1, none⟩) (Kd.R_far (p := ⟨gb102, 0, none⟩) (Kd.R_mono HO_3.out (fun k_ hk => (⟨hk, hk.2⟩ : _ ∧ k_ ≠ gb102))) (fun _ hk => hk.2) (.int .i64 ((rd_T29 l0 x9_1).f0))) (fun _ hk => hk.2) (.int .i64 ((rd_T29 l0 x9_1).f1))) (fun _ hk => hk.1.2)⟩, ⟨by refine bd ?_; refine blk_put (cs := #[.int .i64 ((rd_T29 l0 x9_1).f0), .int .i64 0]) ?_ 1 _ rfl; refine bd ?_; refine blk_put (cs := #[.int .i64 0, .int .i64 0]) ?_ 0 _ rfl; refine bd ?_; exact BK102.out⟩, ⟨bh⟩⟩
    case round =>
     clear H'
     (try clear p1); (try clear q1); (try clear hx1); (try clear c2); (try clear c2b0); (try clear p2); (try clear c3); (try clear c3b0); (try clear c4); (try clear c4b0); (try clear c5); (try clear hcz6_0); (try clear hcz6_1); (try clear hfz6_0); (try clear hfz6_1); (try clear hx101_0); (try clear hx101_1); (try clear p101); (try clear q101)
     obtain ⟨x3_2, x6_2, rfl, HA, HK2, HO_3, BK102, HB⟩ := hrel
     cases gk with
     | zero => exact absurd HA.out (by simp [shape_chain.l1])
     | succ k2 =>
      have H := HA.out
      clear HA
      simp only [shape_chain.l1] at H
      by_cases c8 : x6_2 ≥ 2
      ·rw [if_pos c8] at H
       have c8b0 := decide_eq_true c8
       clear c8
       obtain ⟨ji9, hji9⟩ : ∃ j_ : Int, (wrap64 (x6_2 - 2)) = j_ := ⟨_, rfl⟩
       first | rw [hji9] at H | simp only [hji9] at H
       have hji9w : (IntKind.i64.wrap (x6_2 - 2)) = ji9 := (i64_w _).trans hji9
       replace H := oi H
       obtain ⟨c10, H⟩ := H
       have c10b0 := decide_eq_true c10
       clear c10
       replace H := oi H
       obtain ⟨c11, H⟩ := H
       have c11b0 := decide_eq_true c11
       clear c11
       obtain ⟨ji12, hji12⟩ : ∃ j_ : Int, (wrap64 (x6_2 - 1)) = j_ := ⟨_, rfl⟩
       first | rw [hji12] at H | simp only [hji12] at H
       have hji12w : (IntKind.i64.wrap (x6_2 - 1)) = ji12 := (i64_w _).trans hji12
       replace H := oi H
       obtain ⟨c13, H⟩ := H
       have c13b0 := decide_eq_true c13
       clear c13
       replace H := oi H
       obtain ⟨c14, H⟩ := H
       have c14b0 := decide_eq_true c14
       clear c14
       replace H := Option.bind_eq_some_iff.mp H
       obtain ⟨t105, A150, H⟩ := H
       try dsimp only at H
       have A15 := Aside0.mk A150
       clear A150
       by_cases c16 : t105 ≤ 0
       ·rw [if_pos c16] at H
        have c16b0 := decide_eq_true c16
        clear c16
        replace H := oi H
        obtain ⟨c17, H⟩ := H
        have c17b0 := eq_true c17
        have c17b1 := decide_eq_true c17
        clear c17
        obtain ⟨y106, hy106⟩ : ∃ y_ : List (S29), y_ = (x3_2.take ((ji12) : Int).toNat) := ⟨_, rfl⟩
        replace H : (shape_chain.l1 k2 y106 (y106.length : Int) l0 (l0.length : Int) x9_1 ((rd_T29 l0 x9_1).f0) ((rd_T29 l0 x9_1).f1)) = some r := by first | (rw [hy106]; with_reducible exact H) | (have H2_ := (Option.bind_some _ _).symm.trans H; rw [hy106]; with_reducible exact H2_) | (have H2_ := (Option.bind_some _ _).symm.trans H; with_reducible exact H2_) | with_reducible exact H | (rw [hy106]; exact H) | exact H
        have Ny106 := Aside0.mk hy106
        clear hy106
        have H' := Aside0.mk H
        clear H
        try go_wp2
        replace HO_3 := Aside0.mk (Kd.R_drew HO_3.out)
        replace BK102 := Aside0.mk (blk_drew BK102.out)
        replace HB := Aside0.mk (below_drew1 HB.out)
        obtain ⟨Ao19, co19, eo19⟩ := Kd.R_slice HO_3.out
        (first | subst eo19 | (injection eo19 with f1_ f2_ f3_; have f4_ := f1_.symm; have f5_ := f3_.symm; clear f1_ f2_ f3_; subst f4_; subst f5_))
        have p103 : 0 ≤ ((ji9) : Int) := dt
        have q103 : (ji9) < (x3_2.length : Int) := dt
        obtain ⟨ad103, e103, hx103_0, hx103_1⟩ := at_T29 (Kd.R_reads' HO_3.out).2.2 (ji9) p103 q103
        cases e103
        replace p103 := eq_true p103
        replace q103 := eq_true q103
        have p104 : 0 ≤ ((ji12) : Int) := dt
        have q104 : (ji12) < (x3_2.length : Int) := dt
        obtain ⟨ad104, e104, hx104_0, hx104_1⟩ := at_T29 (Kd.R_reads' HO_3.out).2.2 (ji12) p104 q104
        obtain rfl : ad103 = ad104 := (by injection e104)
        replace p104 := eq_true p104
        replace q104 := eq_true q104
        refine start_ (n := 17) (S := fun w' => w'.cell? ⟨gb102, 0, none⟩ = some (.int .i64 ((rd_T29 l0 x9_1).f0)) ∧ w'.cell? ⟨gb102, 1, none⟩ = some (.int .i64 ((rd_T29 l0 x9_1).f1)) ∧ w'.cell? (ad103.add (((ji9)).toNat * 2)) = some (.int .i64 ((rd_T29 x3_2 (ji9)).f0)) ∧ w'.cell? ⟨(ad103.add (((ji9)).toNat * 2)).block, (ad103.add (((ji9)).toNat * 2)).off + 1, none⟩ = some (.int .i64 ((rd_T29 x3_2 (ji9)).f1)) ∧ w'.cell? (ad103.add (((ji12)).toNat * 2)) = some (.int .i64 ((rd_T29 x3_2 (ji12)).f0)) ∧ w'.cell? ⟨(ad103.add (((ji12)).toNat * 2)).block, (ad103.add (((ji12)).toNat * 2)).off + 1, none⟩ = some (.int .i64 ((rd_T29 x3_2 (ji12)).f1))) (ds := []) #[N,N,N,N,N,N,N,N,N,N,N,N,N,N,N,N,N] (by kernel_rfl) rfl rfl ⟨bc BK102 0, bc BK102 1, hx103_0, hx103_1, hx104_0, hx104_1⟩ (fun hHeld => ?_); refine with_tabW shape_chain.tab6 shape_chain.bits6 (fun HT_ HW_ => ?_)
        generalize wr.drew = w18 at HO_3 BK102 HB hx103_0 hx103_1 hx104_0 hx104_1 hHeld ⊢
        refine pu 0 15 HT_ ?_
        refine pu 1 16 HT_ ?_
        refine pu 2 17 HT_ ?_
        refine pu 3 18 HT_ ?_
        refine pu 4 19 HT_ ?_
        refine pu 5 20 HT_ ?_
        refine pu 6 21 HT_ ?_
        refine pu 8 23 HT_ ?_
        refine pu 9 24 HT_ ?_
        refine pu 10 25 HT_ ?_
        refine pu 11 26 HT_ ?_
        refine tk6 7 22 hHeld HT_ HW_ ?_
        refine tk6 12 27 hHeld HT_ HW_ ?_
        refine tk6 13 28 hHeld HT_ HW_ ?_
        refine one_ (i := 14) (N := some 29) #[T,T,T,T,T,T,T,T,T,T,T,T,T,T,T,N,N] rfl rfl (on1 HT_) (by decide) (fun K hK => ?_)
        refine goes_ Try.func91 (by kernel_rfl) rfl #[.agg #[.int .i64 ((rd_T29 x3_2 (ji9)).f0), .int .i64 ((rd_T29 x3_2 (ji9)).f1)], .agg #[.int .i64 ((rd_T29 x3_2 (ji12)).f0), .int .i64 ((rd_T29 x3_2 (ji12)).f1)], .agg #[.int .i64 ((rd_T29 l0 x9_1).f0), .int .i64 ((rd_T29 l0 x9_1).f1)]] (by rfl) rfl rfl (by (try simp only [List.map_toArray, List.map_cons, List.map_nil]); first | done | (simp only [hji12, hji9]; rfl) | rfl | (simp only [List.length_drop, List.length_take]; rfl)) ?_
        with_reducible refine (shape_side.calls ((rd_T29 x3_2 (ji9)).f0) ((rd_T29 x3_2 (ji9)).f1) ((rd_T29 x3_2 (ji12)).f0) ((rd_T29 x3_2 (ji12)).f1) ((rd_T29 l0 x9_1).f0) ((rd_T29 l0 x9_1).f1) t105 _ A15.out).mono ?_
        rintro e w20 ⟨rfl, hb⟩
        have HS2_ := (hb.cell (World.block_lt_of_cell? _ _ (hHeld.2.2.1))).trans (hHeld.2.2.1)
        have HS3_ := (hb.cell (World.block_lt_of_cell? _ _ (hHeld.2.2.2.1))).trans (hHeld.2.2.2.1)
        have HS4_ := (hb.cell (World.block_lt_of_cell? _ _ (hHeld.2.2.2.2.1))).trans (hHeld.2.2.2.2.1)
        have HS5_ := (hb.cell (World.block_lt_of_cell? _ _ (hHeld.2.2.2.2.2))).trans (hHeld.2.2.2.2.2)
        refine ⟨_, rfl, ?_⟩
        replace HO_3 := Aside0.mk (Kd.R_below (ro HO_3) hb)
        replace BK102 := kb BK102 hb
        replace HB := Aside0.mk (below_step bh hb)
        (try clear hb); (try clear hb2); (try clear hk); (try clear hi)
        refine hK.out _ _ ⟨bc BK102 0, bc BK102 1, HS2_, HS3_, HS4_, HS5_⟩ (fun hHeld => ?_)
        clear hK K
        refine nm 29 ?_
        refine pu 15 30 HT_ ?_
        refine pu 16 31 HT_ ?_
        refine done_ (done_of HT_.out (by kernel_rfl)) ?_
        have q21 : ((ji12) : Int) ≤ ((x3_2.length : Int) : Int) := dt
        obtain ⟨i021, hi021, _, hsz21, _⟩ := info_parts info29
        have hcut21 := cut_to (P := Try.prog) 22 29 .i64 Try.underlying22 hi021 (some ad103) x3_2.length co19 (ji12) (dt) q21 (Kd.R_reads' HO_3.out).2.1
        have hr21 := Kd.R_take (m := ((ji12) : Int).toNat) HO_3.out (by omega)
        have hy21 : y106.length = ((ji12) : Int).toNat := (by rw [Ny106.out, List.length_take]; omega)
        rw [← Ny106.out] at hr21
        rw [← hy21] at hr21 hcut21
        clear hy21 hi021 hsz21 HO_3
        have HO108 := Aside0.mk hr21
        clear hr21
        replace q21 := eq_true q21
        try go_wp2
        go_roundg k2
        case measure => have := HK1.out; have := HK2.out; omega
        case rel => exact ⟨(y106), ((y106.length : Int)), sd, H', ⟨by have := HK1.out; have := HK2.out; omega⟩, ⟨by (with_reducible repeat (first | apply Kd.R_alloc | apply Kd.R_drewN | apply Kd.R_drew)); exact HO108.out⟩, ⟨bk BK102⟩, ⟨bh⟩⟩
       ·rw [if_neg c16] at H
        have c16b0 := decide_eq_false c16
        clear c16
        replace H := oi H
        obtain ⟨c22, H⟩ := H
        have LMc22 := Aside0.mk c22
        clear c22
        obtain ⟨y109, hy109⟩ : ∃ y_ : List (S29), y_ = (x3_2 ++ [(⟨((rd_T29 l0 x9_1).f0), ((rd_T29 l0 x9_1).f1)⟩ : S29)]) := ⟨_, rfl⟩
        replace H : (shape_chain.l0 k2 y109 l0 (l0.length : Int) (wrap64 (x9_1 + 1))) = some r := by first | (rw [hy109]; with_reducible exact H) | (have H2_ := (Option.bind_some _ _).symm.trans H; rw [hy109]; with_reducible exact H2_) | (have H2_ := (Option.bind_some _ _).symm.trans H; with_reducible exact H2_) | with_reducible exact H | (rw [hy109]; exact H) | exact H
        have Ny109 := Aside0.mk hy109
        clear hy109
        have H' := Aside0.mk H
        clear H
        try go_wp2
        replace HO_3 := Aside0.mk (Kd.R_drew HO_3.out)
        replace BK102 := Aside0.mk (blk_drew BK102.out)
        replace HB := Aside0.mk (below_drew1 HB.out)
        obtain ⟨Ao24, co24, eo24⟩ := Kd.R_slice HO_3.out
        (first | subst eo24 | (injection eo24 with f1_ f2_ f3_; have f4_ := f1_.symm; have f5_ := f3_.symm; clear f1_ f2_ f3_; subst f4_; subst f5_))
        have p103 : 0 ≤ ((ji9) : Int) := dt
        have q103 : (ji9) < (x3_2.length : Int) := dt
        obtain ⟨ad103, e103, hx103_0, hx103_1⟩ := at_T29 (Kd.R_reads' HO_3.out).2.2 (ji9) p103 q103
        cases e103
        replace p103 := eq_true p103
        replace q103 := eq_true q103
        have p104 : 0 ≤ ((ji12) : Int) := dt
        have q104 : (ji12) < (x3_2.length : Int) := dt
        obtain ⟨ad104, e104, hx104_0, hx104_1⟩ := at_T29 (Kd.R_reads' HO_3.out).2.2 (ji12) p104 q104
        obtain rfl : ad103 = ad104 := (by injection e104)
        replace p104 := eq_true p104
        replace q104 := eq_true q104
        refine start_ (n := 17) (S := fun w' => w'.cell? ⟨gb102, 0, none⟩ = some (.int .i64 ((rd_T29 l0 x9_1).f0)) ∧ w'.cell? ⟨gb102, 1, none⟩ = some (.int .i64 ((rd_T29 l0 x9_1).f1)) ∧ w'.cell? (ad103.add (((ji9)).toNat * 2)) = some (.int .i64 ((rd_T29 x3_2 (ji9)).f0)) ∧ w'.cell? ⟨(ad103.add (((ji9)).toNat * 2)).block, (ad103.add (((ji9)).toNat * 2)).off + 1, none⟩ = some (.int .i64 ((rd_T29 x3_2 (ji9)).f1)) ∧ w'.cell? (ad103.add (((ji12)).toNat * 2)) = some (.int .i64 ((rd_T29 x3_2 (ji12)).f0)) ∧ w'.cell? ⟨(ad103.add (((ji12)).toNat * 2)).block, (ad103.add (((ji12)).toNat * 2)).off + 1, none⟩ = some (.int .i64 ((rd_T29 x3_2 (ji12)).f1))) (ds := []) #[N,N,N,N,N,N,N,N,N,N,N,N,N,N,N,N,N] (by kernel_rfl) rfl rfl ⟨bc BK102 0, bc BK102 1, hx103_0, hx103_1, hx104_0, hx104_1⟩ (fun hHeld => ?_); refine with_tabW shape_chain.tab6 shape_chain.bits6 (fun HT_ HW_ => ?_)
        generalize wr.drew = w23 at HO_3 BK102 HB hx103_0 hx103_1 hx104_0 hx104_1 hHeld ⊢
        refine pu 0 15 HT_ ?_
        refine pu 1 16 HT_ ?_
        refine pu 2 17 HT_ ?_
        refine pu 3 18 HT_ ?_
        refine pu 4 19 HT_ ?_
        refine pu 5 20 HT_ ?_
        refine pu 6 21 HT_ ?_
        refine pu 8 23 HT_ ?_
        refine pu 9 24 HT_ ?_
        refine pu 10 25 HT_ ?_
        refine pu 11 26 HT_ ?_
        refine tk6 7 22 hHeld HT_ HW_ ?_
        refine tk6 12 27 hHeld HT_ HW_ ?_
        refine tk6 13 28 hHeld HT_ HW_ ?_
        refine one_ (i := 14) (N := some 29) #[T,T,T,T,T,T,T,T,T,T,T,T,T,T,T,N,N] rfl rfl (on1 HT_) (by decide) (fun K hK => ?_)
        refine goes_ Try.func91 (by kernel_rfl) rfl #[.agg #[.int .i64 ((rd_T29 x3_2 (ji9)).f0), .int .i64 ((rd_T29 x3_2 (ji9)).f1)], .agg #[.int .i64 ((rd_T29 x3_2 (ji12)).f0), .int .i64 ((rd_T29 x3_2 (ji12)).f1)], .agg #[.int .i64 ((rd_T29 l0 x9_1).f0), .int .i64 ((rd_T29 l0 x9_1).f1)]] (by rfl) rfl rfl (by (try simp only [List.map_toArray, List.map_cons, List.map_nil]); first | done | (simp only [hji12, hji9]; rfl) | rfl | (simp only [List.length_drop, List.length_take]; rfl)) ?_
        with_reducible refine (shape_side.calls ((rd_T29 x3_2 (ji9)).f0) ((rd_T29 x3_2 (ji9)).f1) ((rd_T29 x3_2 (ji12)).f0) ((rd_T29 x3_2 (ji12)).f1) ((rd_T29 l0 x9_1).f0) ((rd_T29 l0 x9_1).f1) t105 _ A15.out).mono ?_
        rintro e w25 ⟨rfl, hb⟩
        have HS2_ := (hb.cell (World.block_lt_of_cell? _ _ (hHeld.2.2.1))).trans (hHeld.2.2.1)
        have HS3_ := (hb.cell (World.block_lt_of_cell? _ _ (hHeld.2.2.2.1))).trans (hHeld.2.2.2.1)
        have HS4_ := (hb.cell (World.block_lt_of_cell? _ _ (hHeld.2.2.2.2.1))).trans (hHeld.2.2.2.2.1)
        have HS5_ := (hb.cell (World.block_lt_of_cell? _ _ (hHeld.2.2.2.2.2))).trans (hHeld.2.2.2.2.2)
        refine ⟨_, rfl, ?_⟩
        replace HO_3 := Aside0.mk (Kd.R_below (ro HO_3) hb)
        replace BK102 := kb BK102 hb
        replace HB := Aside0.mk (below_step bh hb)
        (try clear hb); (try clear hb2); (try clear hk); (try clear hi)
        refine hK.out _ _ ⟨bc BK102 0, bc BK102 1, HS2_, HS3_, HS4_, HS5_⟩ (fun hHeld => ?_)
        clear hK K
        refine nm 29 ?_
        refine pu 15 30 HT_ ?_
        refine pu 16 31 HT_ ?_
        refine done_ (done_of HT_.out (by kernel_rfl)) ?_
        obtain ⟨hcz26_0, hcz26_1, hfz26_0, hfz26_1⟩ := b2 BK102
        try go_wp2_with (first | ((with_reducible refine gate_builtin (b := .append) (xs := #[.tmp 38, .tmp 40]) rfl ?_); at_builtin; refine Kd.R_append k29 (w0 := w) w.heap.size rfl (.tmp 38) (.tmp 40) 22 29 (.agg #[(.int .i64 0), (.int .i64 0)]) 16 rfl Try.underlying22 info29 rfl (by decide) (by omega) (.slice (some ad103) x3_2.length co24) x3_2 (⟨((rd_T29 l0 x9_1).f0), ((rd_T29 l0 x9_1).f1)⟩ : S29) [.int .i64 ((rd_T29 l0 x9_1).f0), .int .i64 ((rd_T29 l0 x9_1).f1)] (fun k_ => k_ ≠ gb102) (fun _ => False) rfl rfl ?aP (fun _ hk => hk.elim) ?aF ?aO ?aB ?aS ?aL ?_; (case aP => exact k29_mkM _ _ _ (⟨((rd_T29 l0 x9_1).f0), ((rd_T29 l0 x9_1).f1)⟩ : S29)); (case aB => exact bh); (case aF => exact (fun k_ hk => Kd.freshB (g := gb102) (o := .cells #[.int .i64 ((rd_T29 l0 x9_1).f0), .int .i64 ((rd_T29 l0 x9_1).f1)] 29 (0, 0)) (bk BK102) k_ hk)); (case aO => exact (ro HO_3)); (case aS => exact (below_size bh)); (case aL => have := LMc22.out; omega); intro v110 w27 ho hb hg hat; rw [← Ny109.out] at ho; have HO111 := Aside0.mk (ho); replace BK102 := Aside0.mk (blk_grown (g := gb102) (o := .cells #[.int .i64 ((rd_T29 l0 x9_1).f0), .int .i64 ((rd_T29 l0 x9_1).f1)] 29 (0, 0)) (bk BK102) hg (Kd.R_away HO_3.out (fun _ hk => hk))); replace HB := Aside0.mk (hb); clear HO_3; clear ho hb hg hat))
        go_roundg k2
        case measure => have := HK1.out; have := HK2.out; omega
        case rel => exact ⟨(y109), (wrap64 (x9_1 + 1)), sd, H', ⟨by have := HK1.out; have := HK2.out; omega⟩, ⟨by (with_reducible repeat (first | apply Kd.R_alloc | apply Kd.R_drewN | apply Kd.R_drew)); exact Kd.R_mono HO111.out (fun _ hk => trivial)⟩, ⟨bh⟩⟩
      ·rw [if_neg c8] at H
       have c8b0 := decide_eq_false c8
       clear c8
       replace H := oi H
       obtain ⟨c28, H⟩ := H
       have LMc28 := Aside0.mk c28
       clear c28
       obtain ⟨y112, hy112⟩ : ∃ y_ : List (S29), y_ = (x3_2 ++ [(⟨((rd_T29 l0 x9_1).f0), ((rd_T29 l0 x9_1).f1)⟩ : S29)]) := ⟨_, rfl⟩
       replace H : (shape_chain.l0 k2 y112 l0 (l0.length : Int) (wrap64 (x9_1 + 1))) = some r := by first | (rw [hy112]; with_reducible exact H) | (have H2_ := (Option.bind_some _ _).symm.trans H; rw [hy112]; with_reducible exact H2_) | (have H2_ := (Option.bind_some _ _).symm.trans H; with_reducible exact H2_) | with_reducible exact H | (rw [hy112]; exact H) | exact H
       have Ny112 := Aside0.mk hy112
       clear hy112
       have H' := Aside0.mk H
       clear H
       try go_wp2
       replace HO_3 := Aside0.mk (Kd.R_drew HO_3.out)
       replace BK102 := Aside0.mk (blk_drew BK102.out)
       replace HB := Aside0.mk (below_drew1 HB.out)
       refine start_ (n := 17) (S := fun w' => True) (ds := []) #[N,N,N,N,N,N,N,N,N,N,N,N,N,N,N,N,N] (by kernel_rfl) rfl rfl trivial (fun hHeld => ?_); refine with_tabW shape_chain.tab6 shape_chain.bits6 (fun HT_ HW_ => ?_)
       generalize wr.drew = w29 at HO_3 BK102 HB hHeld ⊢
       refine pu 0 15 HT_ ?_
       refine pu 1 16 HT_ ?_
       refine pu 2 17 HT_ ?_
       refine pz 3 18 HT_ ?_
       refine pz 4 19 HT_ ?_
       refine pz 5 20 HT_ ?_
       refine pz 6 21 HT_ ?_
       refine pz 7 22 HT_ ?_
       refine pz 8 23 HT_ ?_
       refine pz 9 24 HT_ ?_
       refine pz 10 25 HT_ ?_
       refine pz 11 26 HT_ ?_
       refine pz 12 27 HT_ ?_
       refine pz 13 28 HT_ ?_
       refine pz 14 29 HT_ ?_
       refine pz 15 30 HT_ ?_
       refine pu 16 31 HT_ ?_
       refine done_ (done_of HT_.out (by kernel_rfl)) ?_
       obtain ⟨hcz30_0, hcz30_1, hfz30_0, hfz30_1⟩ := b2 BK102
       try go_wp2_with (first | ((with_reducible refine gate_builtin (b := .append) (xs := #[.tmp 38, .tmp 40]) rfl ?_); at_builtin; refine Kd.R_append k29 (w0 := w) w.heap.size rfl (.tmp 38) (.tmp 40) 22 29 (.agg #[(.int .i64 0), (.int .i64 0)]) 16 rfl Try.underlying22 info29 rfl (by decide) (by omega) u3 x3_2 (⟨((rd_T29 l0 x9_1).f0), ((rd_T29 l0 x9_1).f1)⟩ : S29) [.int .i64 ((rd_T29 l0 x9_1).f0), .int .i64 ((rd_T29 l0 x9_1).f1)] (fun k_ => k_ ≠ gb102) (fun _ => False) rfl rfl ?aP (fun _ hk => hk.elim) ?aF ?aO ?aB ?aS ?aL ?_; (case aP => exact k29_mkM _ _ _ (⟨((rd_T29 l0 x9_1).f0), ((rd_T29 l0 x9_1).f1)⟩ : S29)); (case aB => exact bh); (case aF => exact (fun k_ hk => Kd.freshB (g := gb102) (o := .cells #[.int .i64 ((rd_T29 l0 x9_1).f0), .int .i64 ((rd_T29 l0 x9_1).f1)] 29 (0, 0)) (bk BK102) k_ hk)); (case aO => exact (ro HO_3)); (case aS => exact (below_size bh)); (case aL => have := LMc28.out; omega); intro v113 w31 ho hb hg hat; rw [← Ny112.out] at ho; have HO114 := Aside0.mk (ho); replace BK102 := Aside0.mk (blk_grown (g := gb102) (o := .cells #[.int .i64 ((rd_T29 l0 x9_1).f0), .int .i64 ((rd_T29 l0 x9_1).f1)] 29 (0, 0)) (bk BK102) hg (Kd.R_away HO_3.out (fun _ hk => hk))); replace HB := Aside0.mk (hb); clear HO_3; clear ho hb hg hat))
       go_roundg k2
       case measure => have := HK1.out; have := HK2.out; omega
       case rel => exact ⟨(y112), (wrap64 (x9_1 + 1)), sd, H', ⟨by have := HK1.out; have := HK2.out; omega⟩, ⟨by (with_reducible repeat (first | apply Kd.R_alloc | apply Kd.R_drewN | apply Kd.R_drew)); exact Kd.R_mono HO114.out (fun _ hk => trivial)⟩, ⟨bh⟩⟩
   ·rw [if_neg c2] at H
    have c2b0 := decide_eq_false c2
    clear c2
    obtain rfl := Option.some.inj H
    go_wp2
    go_ret
    exact ⟨_, by exact er, by (with_reducible repeat (first | apply Kd.R_alloc | apply Kd.R_drewN | apply Kd.R_drew)); exact HO_3.out, bh⟩
end Go.Proofs.Ytoffmpkgickfhaa.PG
end
section
namespace Go.Proofs.Ytoffmpkgickfhaa.PG
open Go.RowKit Go.Proofs.YtoffmpkgickfhaaW.PrintWords Go.Proofs.YtoffmpkgickfhaaW.PrintLast Go.Proofs.YtoffmpkgickfhaaW.PrintMore
def Pts (cur : Array Value) (l : List S29) : Prop := ∀ j (h : j < l.length), cur[2 * j]? = some (.int .i64 l[j].f0) ∧ cur[2 * j + 1]? = some (.int .i64 l[j].f1)
theorem rd_nat (L : List S29) (i : Nat) (h : i < L.length) : rd_T29 L (i : Int) = L[i] := by
 unfold rd_T29; rw [Int.toNat_natCast, List.getD_eq_getElem?_getD, List.getElem?_eq_getElem h]; rfl
theorem pts_take {cur : Array Value} {l : List S29} (m : Nat) (h : Pts cur l) : Pts cur (l.take m) := by
 intro j hj
 have := h j (by simp at hj; omega)
 simpa using this
theorem pts_list {cur : Array Value} {l : List S29} (h : Pts cur l) : cur.toList.take (l.length * 2) = l.flatMap fun x => [Value.int .i64 x.f0, Value.int .i64 x.f1] := by
 induction l generalizing cur with
 | nil => simp
 | cons a l ih =>
  obtain ⟨a0, a1⟩ := h 0 (by simp)
  simp only [Nat.mul_zero, List.getElem_cons_zero] at a0 a1
  have e : ∃ x y t, cur.toList = x :: y :: t := by
   match hh : cur.toList with
   | [] => rw [← Array.getElem?_toList, hh] at a0; simp at a0
   | [x] => rw [← Array.getElem?_toList, hh] at a1; simp at a1
   | x :: y :: t => exact ⟨x, y, t, rfl⟩
  obtain ⟨x, y, t, e⟩ := e
  rw [← Array.getElem?_toList, e] at a0 a1
  simp at a0 a1
  subst a0; subst a1
  have h2 : Pts t.toArray l := by
   intro j hj
   have := h (j + 1) (by simp; omega)
   rw [← Array.getElem?_toList, ← Array.getElem?_toList, e] at this
   simpa [Nat.mul_add, Nat.add_assoc] using this
  have := ih h2
  rw [e, List.flatMap_cons, ← this]
  simp [Nat.add_mul]
theorem pts_reps {l : List S29} {W : World} {base : Nat} {ok : Nat → Prop} : Reps (k29.M W base ok) k29.sz l (l.flatMap fun x => [Value.int .i64 x.f0, Value.int .i64 x.f1]) := by
 suffices H : ∀ (l pre : List S29) (cs : List Value), Reps (k29.M W base ok) k29.sz pre cs → Reps (k29.M W base ok) k29.sz (pre ++ l) (cs ++ l.flatMap fun x => [Value.int .i64 x.f0, Value.int .i64 x.f1]) by
  simpa using H l [] [] (Reps.none _ _)
 intro l
 induction l with
 | nil => intro pre cs h; simpa using h
 | cons a l ih =>
  intro pre cs h
  have := ih (pre ++ [a]) (cs ++ [Value.int .i64 a.f0, Value.int .i64 a.f1]) (h.snoc (k29_mkM W base ok a) rfl)
  simpa using this
theorem row_open {w : World} {base : Nat} {P : Nat → Prop} {u : Value} {l : List S29} (h : Kd.R k29 29 w base P u l) (hl : 0 < l.length) :
  ∃ g cap cur, u = .slice (some ⟨g, 0, none⟩) l.length cap ∧ base ≤ g ∧ w.heap[g]? = some (.cells cur 29 (0, 0)) ∧ l.length ≤ cap ∧ cap ≤ maxLen ∧ cur.size = cap * 2 ∧ P g ∧ Pts cur l := by
 obtain ⟨hP, inner, ⟨hlen, ho⟩, hr⟩ := h
 rcases ho with ⟨_, h0⟩ | ⟨g, cap, cur, rfl, hb, hh, hn, hc, hs, ht⟩
 ·omega
 ·refine ⟨g, cap, cur, rfl, hb, hh, hn, hc, hs, hP g rfl, ?_⟩
  intro j hj
  have hm := hr.2 j l[j] (by simp [hj])
  obtain hm := k29_openM hm
  have hsz : k29.sz = 2 := rfl
  rw [hsz] at hm ht
  have e0 : inner[2 * j]? = some (.int .i64 l[j].f0) := by
   have := congrArg (fun z => z[0]?) hm
   simp at this
   rw [Nat.mul_comm]; exact this
  have e1 : inner[2 * j + 1]? = some (.int .i64 l[j].f1) := by
   have := congrArg (fun z => z[1]?) hm
   simp at this
   rw [Nat.mul_comm]; exact this
  rw [← ht, List.getElem?_take_of_lt (by omega), Array.getElem?_toList] at e0
  rw [← ht, List.getElem?_take_of_lt (by omega), Array.getElem?_toList] at e1
  exact ⟨e0, e1⟩
theorem row_shut {w' : World} {base g cap : Nat} {P : Nat → Prop} {cur : Array Value} {l : List S29} (hb : base ≤ g) (hh : w'.heap[g]? = some (.cells cur 29 (0, 0))) (hn : l.length ≤ cap) (hc : cap ≤ maxLen) (hs : cur.size = cap * 2) (hP : P g) (hp : Pts cur l) :
  Kd.R k29 29 w' base P (.slice (some ⟨g, 0, none⟩) l.length cap) l := by
 refine ⟨fun k hk => ?_, l.flatMap fun x => [Value.int .i64 x.f0, Value.int .i64 x.f1], ⟨?_, .inr ⟨g, cap, cur, rfl, hb, hh, hn, hc, hs, (show cur.toList.take (l.length * 2) = _ from pts_list hp)⟩⟩, pts_reps⟩
 ·simp [Value.ownBlock] at hk; subst hk; exact hP
 ·have := congrArg List.length (pts_list hp)
  rw [← this]
  simp
  have : k29.sz = 2 := rfl
  rw [this, hs]; omega
theorem pts_set {cur : Array Value} {L : List S29} {k : Nat} (x : S29) (h : Pts cur L) (hs : L.length * 2 ≤ cur.size) (hk : k < L.length) :
  Pts ((cur.setIfInBounds (k * 2) (.int .i64 x.f0)).setIfInBounds (k * 2 + 1) (.int .i64 x.f1)) (L.set k x) := by
 intro j hj
 rw [List.length_set] at hj
 have hp := h j hj
 rw [List.getElem_set]
 by_cases e : k = j
 ·subst e
  rw [if_pos rfl]
  refine ⟨?_, ?_⟩
  ·rw [Array.getElem?_setIfInBounds_ne (by omega), Nat.mul_comm 2 k, Array.getElem?_setIfInBounds_self_of_lt (by omega)]
  ·rw [Nat.mul_comm 2 k, Array.getElem?_setIfInBounds_self_of_lt (by simp; omega)]
 ·rw [if_neg e]
  refine ⟨?_, ?_⟩
  ·rw [Array.getElem?_setIfInBounds_ne (by omega), Array.getElem?_setIfInBounds_ne (by omega)]; exact hp.1
  ·rw [Array.getElem?_setIfInBounds_ne (by omega), Array.getElem?_setIfInBounds_ne (by omega)]; exact hp.2
theorem grown_set {w w1 : World} {g : Nat} (h : w.grownBy w1 (some g)) (i : Nat) (u : Value) : w.grownBy (w1.setCell ⟨g, i, none⟩ u) (some g) := by
 have hs : ∀ k, k ≠ g → (w1.setCell ⟨g, i, none⟩ u).heap[k]? = w1.heap[k]? := fun k hk => Below.heap_setCell w1 ⟨g, i, none⟩ u k hk
 refine ⟨?_, ?_, ?_, ?_, fun k hk hne => ?_⟩
 ·have := h.os; simpa [World.setCell] using this
 ·have := h.tape; simpa [World.setCell] using this
 ·have := h.output; simpa [World.setCell] using this
 ·have := h.size; simpa [World.setCell] using this
 ·rw [hs k (fun e => hne (by rw [e]))]; exact h.block k hk hne
theorem grown_drewN {w w1 : World} {r : Option Nat} (h : w.grownBy w1 r) (q : Nat) : w.grownBy (w1.drewN q) r := ⟨h.os, h.tape, h.output, h.size, h.block⟩
theorem grown_below {w0 w w1 : World} {g : Nat} (hB : Below w0.heap.size w0 w) (h : w.grownBy w1 (some g)) (hg : w0.heap.size ≤ g) : Below w0.heap.size w0 w1 :=
 pw_below_grown hB (some g) hB.size h (fun k e => by simp at e; omega)
theorem grown_kept {w w1 : World} {g : Nat} {P : Nat → Prop} (h : w.grownBy w1 (some g)) (hg : P g) : Kept w w1 P :=
 ⟨h.size, fun i hi hn => h.block i hi (fun e => hn (by simp at e; rw [e]; exact hg))⟩
end Go.Proofs.Ytoffmpkgickfhaa.PG
end
section
namespace Go.Proofs.Ytoffmpkgickfhaa.PG
open Go.RowKit Go.Proofs.YtoffmpkgickfhaaW.PrintWords Go.Proofs.YtoffmpkgickfhaaW.PrintLast Go.Proofs.YtoffmpkgickfhaaW.PrintMore
def slices_Grow_nil.f (a1 : Int) : Option (List S29) := if 0 ≤ a1 ∧ a1 < 8796093022208 then some [] else none
set_option maxHeartbeats 2000000 in
theorem slices_Grow_nil.calls (a1 : Int) (r : List S29) (w : World) (h : slices_Grow_nil.f a1 = some r) :
  Calls Try.prog 92 #[.slice none 0 0, .int .i64 a1] w fun e w' => ∃ v0_ : Value, e = .returned (v0_) ∧ Kd.R k29 29 w' w.heap.size (fun _ => True) v0_ r ∧ Below w.heap.size w w' := by
 unfold slices_Grow_nil.f at h
 split at h
 ·rename_i hb
  obtain rfl := Option.some.inj h
  clear h
  have h0 : 0 ≤ a1 := hb.1
  have h1 : a1 < 8796093022208 := hb.2
  clear hb
  have HB := Aside0.mk (Below.refl w.heap.size w)
  by_cases hp : 0 < a1
  ·have HL := Aside0.mk h1
   go_enter Try.func92, Try.ntmps92
   go_wp2_with ((with_reducible refine gate_builtin (b := .append) (xs := #[.tmp 20, .tmp 21]) rfl ?_); at_builtin; refine Kd.R_append_zeros k29 (w0 := w) w.heap.size rfl (.tmp 20) (.tmp 21) 22 3 29 (.agg #[(.int .i64 0), (.int .i64 0)]) 16 rfl Try.underlying22 Try.underlying3 info29 rfl (by decide) (by omega) (.slice none 0 0) ([] : List S29) z29 a1 (fun _ => True) rfl rfl ?aZ (fun _ _ => trivial) ?aO h0 HB.out (Nat.le_refl _) ?aL ?_; (case aZ => exact k29_mkM _ _ _ z29); (case aO => exact ⟨fun k hk => by simp [Value.ownBlock] at hk, [], own_nil _ _ _ _, Reps.none _ _⟩); (case aL => have := HL.out; simp; omega); intro v1 w1 ho hb hg hat; rw [List.nil_append] at ho; obtain ⟨g, cap, cur, rfl, q1, q2, q3, q4, q5, _, _⟩ := row_open ho (by simp; omega); simp only [List.length_replicate] at q3; have HB1 := Aside0.mk hb; have Q1 := Aside0.mk q1; have Q2 := Aside0.mk q2; have Q4 := Aside0.mk q4; have Q5 := Aside0.mk q5; clear HB ho hb hg hat q1 q2 q4 q5)
   go_ret
   exact ⟨_, rfl, row_shut (l := []) Q1.out Q2.out (Nat.zero_le _) Q4.out Q5.out trivial (fun j hj => by simp at hj), HB1.out⟩
  ·have : a1 = 0 := by omega
   subst this
   go_enter Try.func92, Try.ntmps92
   go_wp2
   go_ret
   exact ⟨_, rfl, ⟨fun k hk => by simp [Value.ownBlock] at hk, [], own_nil _ _ _ _, Reps.none _ _⟩, Below.refl _ _⟩
 ·cases h
end Go.Proofs.Ytoffmpkgickfhaa.PG
end
section
namespace Go.Proofs.Ytoffmpkgickfhaa.PG
open Go.RowKit Go.Proofs.YtoffmpkgickfhaaW.PrintWords Go.Proofs.YtoffmpkgickfhaaW.PrintLast Go.Proofs.YtoffmpkgickfhaaW.PrintMore
attribute [local go_sem] max2_int min2_int max_two min_two max_three min_three max_four min_four
set_option linter.unusedVariables false
set_option linter.unusedSimpArgs false
/-! ### api_Point_57: function 57 -/
mutual
def api_Point_57.l0 : Nat → List (List (S29)) → Int → List (List (S29)) → Int → Int → Option ((List (S29)))
 | 0, _, _, _, _, _ => none
 | k + 1, x0, x3, x9, x10, x11 => if x11 < x10 then (if 0 ≤ x11 then (if x11 < (x9.length : Int) then (if (wrap64 (x3 + ((rd_L2 x9 x11).length : Int))) < 0 then (none) else (api_Point_57.l0 k x0 (wrap64 (x3 + ((rd_L2 x9 x11).length : Int))) x9 x10 (wrap64 (x11 + 1)))) else (none)) else (none)) else ((slices_Grow_nil.f x3).bind fun t102 => (api_Point_57.l1 k t102 x0 (x0.length : Int) 0))
def api_Point_57.l1 : Nat → List (S29) → List (List (S29)) → Int → Int → Option ((List (S29)))
 | 0, _, _, _, _ => none
 | k + 1, x6, x25, x26, x27 => if x27 < x26 then (if 0 ≤ x27 then (if x27 < (x25.length : Int) then (if x6.length + (rd_L2 x25 x27).length < 8796093022208 then (api_Point_57.l1 k (x6 ++ (rd_L2 x25 x27)) x25 x26 (wrap64 (x27 + 1))) else (none)) else (none)) else (none)) else (some x6)
end
def api_Point_57.f (k : Nat) (l0 : List (List (S29))) : Option ((List (S29))) := api_Point_57.l0 k l0 0 l0 (l0.length : Int) 0
set_option maxHeartbeats 8000000 in
set_option maxRecDepth 100000 in
theorem api_Point_57.calls (k : Nat) (A0 : Option Addr) (c0 : Nat) (l0 : List (List (S29))) (r : List (S29)) (w : World) (hr0 : Kd.C (Kd.slice 29 k29) w A0 l0.length l0) (hc0 : l0.length ≤ c0) (h : api_Point_57.f k l0 = some r) :
  Calls Try.prog 57 #[.slice A0 l0.length c0] w fun e w' => ∃ v0_ : Value, e = .returned (v0_) ∧ Kd.R k29 29 w' w.heap.size (fun _ => True) v0_ r ∧ Below w.heap.size w w' := by
 have HR0 := Aside0.mk hr0
 have HC0 := Aside0.mk hc0
 clear hr0 hc0
 have HB := Aside0.mk (Below.refl w.heap.size w)
 have H : (api_Point_57.l0 k l0 0 l0 (l0.length : Int) 0) = some r := h
 clear h
 have H' := Aside0.mk H
 clear H
 go_enter Try.func57, Try.ntmps57
 go_wp2
 go_loopg [3, 11] k (fun kq v3 v11 w' => ∃ (x3_1 : Int) (x11_1 : Int), v3 = .int .i64 x3_1 ∧ v11 = .int .i64 x11_1 ∧ Aside0 (api_Point_57.l0 kq l0 x3_1 l0 (l0.length : Int) x11_1 = some r) ∧ Aside0 (kq ≤ k) ∧ Aside0 (Below w.heap.size w w'))
 case atStart => exact ⟨(0), (0), sd, sd, H', ⟨Nat.le_refl _⟩, ⟨bh⟩⟩
 case round =>
  clear H'
  obtain ⟨x3_1, x11_1, rfl, rfl, HA, HK1, HB⟩ := hrel
  cases gk with
  | zero => exact absurd HA.out (by simp [api_Point_57.l0])
  | succ k1 =>
   have H := HA.out
   clear HA
   simp only [api_Point_57.l0] at H
   by_cases c2 : x11_1 < (l0.length : Int)
   ·rw [if_pos c2] at H
    have c2b0 := decide_eq_true c2
    clear c2
    replace H := oi H
    obtain ⟨c3, H⟩ := H
    have c3b0 := decide_eq_true c3
    clear c3
    replace H := oi H
    obtain ⟨c4, H⟩ := H
    have c4b0 := decide_eq_true c4
    clear c4
    replace H := oj H
    obtain ⟨c5, H⟩ := H
    have c5b0 := decide_eq_false c5
    clear c5
    have H' := Aside0.mk H
    clear H
    have p101 : 0 ≤ (x11_1 : Int) := dt
    have q101 : x11_1 < (l0.length : Int) := dt
    obtain ⟨ad101, A101_0, c101_0, e101, hx101_0, hl101_0, hi101_0⟩ := at_L2 HR0.out x11_1 p101 q101
    cases e101
    replace hx101_0 := hc HB hx101_0
    have HR101_0 := Aside0.mk hi101_0
    have HC101_0 := Aside0.mk hl101_0
    clear hi101_0 hl101_0
    replace p101 := eq_true p101
    replace q101 := eq_true q101
    go_wp2
    go_roundg k1
    case measure => have := HK1.out; omega
    case rel => exact ⟨(wrap64 (x3_1 + ((rd_L2 l0 x11_1).length : Int))), (wrap64 (x11_1 + 1)), sd, sd, H', ⟨by have := HK1.out; omega⟩, ⟨bh⟩⟩
   ·rw [if_neg c2] at H
    have c2b0 := decide_eq_false c2
    clear c2
    replace H := Option.bind_eq_some_iff.mp H
    obtain ⟨t102, A60, H⟩ := H
    try dsimp only at H
    have A6 := Aside0.mk A60
    clear A60
    have H' := Aside0.mk H
    clear H
    go_wp2_with (first | ((with_reducible refine gc 92 rfl ?_); refine goesL_ (some 24) rfl rfl Try.func92 (by kernel_rfl) rfl #[.slice none 0 0, .int .i64 x3_1] rfl sg ?_; (with_reducible refine (slices_Grow_nil.calls  x3_1 t102 _ A6.out).mono ?_); rintro e w7 ⟨v103, rfl, ho0, hb⟩; refine ⟨_, rfl, ?_⟩; have HO104 := Aside0.mk (Kd.R_lower ho0 (below_size bh)); replace HB := Aside0.mk (below_step bh hb); (try clear hb); (try clear hb2); (try clear hk); (try clear hi); (try clear ho0)))
    go_loopg [6, 27] k1 (fun kq v6 v27 w' => ∃ (x6_2 : List (S29)) (x27_2 : Int), v27 = .int .i64 x27_2 ∧ Aside0 (api_Point_57.l1 kq x6_2 l0 (l0.length : Int) x27_2 = some r) ∧ Aside0 (kq ≤ k1) ∧ Aside0 (Kd.R k29 29 w' w.heap.size (fun _ => True) v6 x6_2) ∧ Aside0 (Below w.heap.size w w'))
    case atStart => exact ⟨(t102), (0), sd, H', ⟨Nat.le_refl _⟩, ⟨by (with_reducible repeat (first | apply Kd.R_alloc | apply Kd.R_drewN | apply Kd.R_drew)); exact HO104.out⟩, ⟨bh⟩⟩
    case round =>
     clear H'
     (try clear c1); (try clear p1); (try clear q1); (try clear hx1); (try clear c2); (try clear c2b0); (try clear p2); (try clear c3); (try clear c3b0); (try clear c4); (try clear c4b0); (try clear c5); (try clear c5b0); (try clear p6); (try clear hx101_0); (try clear p101); (try clear q101)
     obtain ⟨x6_2, x27_2, rfl, HA, HK2, HO_6, HB⟩ := hrel
     cases gk with
     | zero => exact absurd HA.out (by simp [api_Point_57.l1])
     | succ k2 =>
      have H := HA.out
      clear HA
      simp only [api_Point_57.l1] at H
      by_cases c8 : x27_2 < (l0.length : Int)
      ·rw [if_pos c8] at H
       have c8b0 := decide_eq_true c8
       clear c8
       replace H := oi H
       obtain ⟨c9, H⟩ := H
       have c9b0 := decide_eq_true c9
       clear c9
       replace H := oi H
       obtain ⟨c10, H⟩ := H
       have c10b0 := decide_eq_true c10
       clear c10
       replace H := oi H
       obtain ⟨c11, H⟩ := H
       have LMc11 := Aside0.mk c11
       clear c11
       obtain ⟨y106, hy106⟩ : ∃ y_ : List (S29), y_ = (x6_2 ++ (rd_L2 l0 x27_2)) := ⟨_, rfl⟩
       replace H : (api_Point_57.l1 k2 y106 l0 (l0.length : Int) (wrap64 (x27_2 + 1))) = some r := by first | (rw [hy106]; with_reducible exact H) | (have H2_ := (Option.bind_some _ _).symm.trans H; rw [hy106]; with_reducible exact H2_) | (have H2_ := (Option.bind_some _ _).symm.trans H; with_reducible exact H2_) | with_reducible exact H | (rw [hy106]; exact H) | exact H
       have Ny106 := Aside0.mk hy106
       clear hy106
       have H' := Aside0.mk H
       clear H
       have p105 : 0 ≤ (x27_2 : Int) := dt
       have q105 : x27_2 < (l0.length : Int) := dt
       obtain ⟨ad105, A105_0, c105_0, e105, hx105_0, hl105_0, hi105_0⟩ := at_L2 HR0.out x27_2 p105 q105
       cases e105
       replace hx105_0 := hc HB hx105_0
       have HR105_0 := Aside0.mk hi105_0
       have HC105_0 := Aside0.mk hl105_0
       clear hi105_0 hl105_0
       replace p105 := eq_true p105
       replace q105 := eq_true q105
       go_wp2_with (first | ((with_reducible refine gate_builtin (b := .append) (xs := #[.tmp 31, .tmp 32]) rfl ?_); at_builtin; refine Kd.R_append_rows k29 (w0 := w) w.heap.size rfl (.tmp 31) (.tmp 32) 22 29 (.agg #[(.int .i64 0), (.int .i64 0)]) 16 rfl Try.underlying22 info29 rfl (by decide) (by omega) u6 x6_2 (rd_L2 l0 x27_2) _ _ _ (fun _ => True) (fun _ => False) rfl rfl ?aO ?aR (fun _ _ h => h) (fun _ h => h.elim) ?aF ?aB ?aS ?aL ?_; (case aR => repeat (first | exact (Kd.C_below HR105_0.out HB.out) | (with_reducible refine Kd.C_alloc ?_ _) | (with_reducible refine Kd.C_drewN ?_ _) | (with_reducible refine Kd.C_drew ?_))); (case aB => exact bh); (case aF => exact (fun _ _ => trivial)); (case aO => exact (ro HO_6)); (case aS => exact (below_size bh)); (case aL => have := LMc11.out; omega); intro v107 w12 ho hb hg hat; rw [← Ny106.out] at ho; have HO108 := Aside0.mk (ho); replace HB := Aside0.mk (hb); clear HO_6; clear ho hb hg hat))
       go_roundg k2
       case measure => have := HK1.out; have := HK2.out; omega
       case rel => exact ⟨(y106), (wrap64 (x27_2 + 1)), sd, H', ⟨by have := HK1.out; have := HK2.out; omega⟩, ⟨by (with_reducible repeat (first | apply Kd.R_alloc | apply Kd.R_drewN | apply Kd.R_drew)); exact HO108.out⟩, ⟨bh⟩⟩
      ·rw [if_neg c8] at H
       have c8b0 := decide_eq_false c8
       clear c8
       obtain rfl := Option.some.inj H
       go_wp2
       go_ret
       exact ⟨_, by exact er, by (with_reducible repeat (first | apply Kd.R_alloc | apply Kd.R_drewN | apply Kd.R_drew)); exact HO_6.out, bh⟩
attribute [local go_sem high] eqA29
/-! ### api_Point_93: function 93 -/
def api_Point_93.l0 : Nat → List (S29) → Int → Int → Int → Int → Option (Int)
 | 0, _, _, _, _, _ => none
 | k + 1, x0, x7, x8, x102000, x102001 => if x8 < x7 then (if 0 ≤ x8 then (if x8 < (x0.length : Int) then (if (x102000 == ((rd_T29 x0 x8).f0) && (x102001 == ((rd_T29 x0 x8).f1))) = true then (some x8) else (api_Point_93.l0 k x0 x7 (wrap64 (x8 + 1)) x102000 x102001)) else (none)) else (none)) else (some (-1))
def api_Point_93.f (k : Nat) (l0 : List (S29)) (a1_0 : Int) (a1_1 : Int) : Option (Int) := api_Point_93.l0 k l0 (l0.length : Int) 0 a1_0 a1_1
set_option maxHeartbeats 8000000 in
set_option maxRecDepth 100000 in
theorem api_Point_93.calls (k : Nat) (A0 : Option Addr) (c0 : Nat) (l0 : List (S29)) (a1_0 : Int) (a1_1 : Int) (r : Int) (w : World) (hr0 : Kd.C k29 w A0 l0.length l0) (hc0 : l0.length ≤ c0) (h : api_Point_93.f k l0 a1_0 a1_1 = some r) :
  Calls Try.prog 93 #[.slice A0 l0.length c0, .agg #[.int .i64 a1_0, .int .i64 a1_1]] w fun e w' => e = .returned (.int .i64 r) ∧ Below w.heap.size w w' := by
 have hu29 := Try.underlying29
 have HR0 := Aside0.mk hr0
 have HC0 := Aside0.mk hc0
 clear hr0 hc0
 have HB := Aside0.mk (Below.refl w.heap.size w)
 have H : (api_Point_93.l0 k l0 (l0.length : Int) 0 a1_0 a1_1) = some r := h
 clear h
 have H' := Aside0.mk H
 clear H
 go_enter Try.func93, Try.ntmps93
 go_wp2_with (first | ((with_reducible refine gate_dst (N := 3) rfl ?_); refine bxe 3 #[.int .i64 a1_0, .int .i64 a1_1] 29 ?_; intro gb101 hg w3 hbox hb; have BK101 := Aside0.mk (hbox); have GW101 := Aside0.mk (gs hg : w.heap.size ≤ gb101); have GE101 := Aside0.mk (gs hg : w.heap.size ≤ gb101); replace HB := Aside0.mk (below_step bh hb); clear hb hbox hg))
 repeat (go_quiet (first | ((with_reducible refine gate_dst (N := 3) rfl ?_); refine bxe 3 #[.int .i64 a1_0, .int .i64 a1_1] 29 ?_; intro gb101 hg w3 hbox hb; have BK101 := Aside0.mk (hbox); have GW101 := Aside0.mk (gs hg : w.heap.size ≤ gb101); have GE101 := Aside0.mk (gs hg : w.heap.size ≤ gb101); replace HB := Aside0.mk (below_step bh hb); clear hb hbox hg)); try go_wp2_with (first | ((with_reducible refine gate_dst (N := 3) rfl ?_); refine bxe 3 #[.int .i64 a1_0, .int .i64 a1_1] 29 ?_; intro gb101 hg w3 hbox hb; have BK101 := Aside0.mk (hbox); have GW101 := Aside0.mk (gs hg : w.heap.size ≤ gb101); have GE101 := Aside0.mk (gs hg : w.heap.size ≤ gb101); replace HB := Aside0.mk (below_step bh hb); clear hb hbox hg)))
 go_loopg [8] k (fun kq v8 w' => ∃ (x8_1 : Int), v8 = .int .i64 x8_1 ∧ Aside0 (api_Point_93.l0 kq l0 (l0.length : Int) x8_1 a1_0 a1_1 = some r) ∧ Aside0 (kq ≤ k) ∧ Aside0 (w'.heap[gb101]? = some (.cells #[.int .i64 a1_0, .int .i64 a1_1] 29 (0, 0))) ∧ Aside0 (Below w.heap.size w w'))
 case atStart => exact ⟨(0), sd, H', ⟨Nat.le_refl _⟩, ⟨bk BK101⟩, ⟨bh⟩⟩
 case round =>
  clear H'
  (try clear p2)
  obtain ⟨x8_1, rfl, HA, HK1, BK101, HB⟩ := hrel
  cases gk with
  | zero => exact absurd HA.out (by simp [api_Point_93.l0])
  | succ k1 =>
   have H := HA.out
   clear HA
   simp only [api_Point_93.l0] at H
   by_cases c4 : x8_1 < (l0.length : Int)
   ·rw [if_pos c4] at H
    have c4b0 := decide_eq_true c4
    clear c4
    replace H := oi H
    obtain ⟨c5, H⟩ := H
    have c5b0 := decide_eq_true c5
    clear c5
    replace H := oi H
    obtain ⟨c6, H⟩ := H
    have c6b0 := decide_eq_true c6
    clear c6
    by_cases c7 : (a1_0 == ((rd_T29 l0 x8_1).f0) && (a1_1 == ((rd_T29 l0 x8_1).f1))) = true
    ·rw [if_pos c7] at H
     have c7b0 : (a1_0 == ((rd_T29 l0 x8_1).f0) && (a1_1 == ((rd_T29 l0 x8_1).f1))) = true := c7
     (try (have c7b1 : decide (a1_0 = ((rd_T29 l0 x8_1).f0) && (a1_1 == ((rd_T29 l0 x8_1).f1))) = true := by simpa using c7))
     (try (have c7b2 : (a1_0 == ((rd_T29 l0 x8_1).f0) && (a1_1 == ((rd_T29 l0 x8_1).f1))) = true := by simpa using c7))
     clear c7
     obtain rfl := Option.some.inj H
     obtain ⟨hcz8_0, hcz8_1, hfz8_0, hfz8_1⟩ := b2 BK101
     have p102 : 0 ≤ (x8_1 : Int) := dt
     have q102 : x8_1 < (l0.length : Int) := dt
     obtain ⟨ad102, e102, hx102_0, hx102_1⟩ := at_T29 HR0.out x8_1 p102 q102
     cases e102
     replace hx102_0 := hc HB hx102_0
     replace hx102_1 := hc HB hx102_1
     replace p102 := eq_true p102
     replace q102 := eq_true q102
     go_wp2
     repeat (go_quiet (fail); try go_wp2)
     go_ret
     exact ⟨by exact er, bh⟩
    ·rw [if_neg c7] at H
     have c7b0 : (a1_0 == ((rd_T29 l0 x8_1).f0) && (a1_1 == ((rd_T29 l0 x8_1).f1))) = false := by simpa using c7
     (try (have c7b1 : decide (a1_0 = ((rd_T29 l0 x8_1).f0) && (a1_1 == ((rd_T29 l0 x8_1).f1))) = false := by simpa using c7))
     (try (have c7b2 : (a1_0 == ((rd_T29 l0 x8_1).f0) && (a1_1 == ((rd_T29 l0 x8_1).f1))) = false := by simpa using c7))
     (try (have c7b3 : ¬ (a1_0 = ((rd_T29 l0 x8_1).f0) && (a1_1 == ((rd_T29 l0 x8_1).f1))) := by simpa using c7))
     clear c7
     have H' := Aside0.mk H
     clear H
     obtain ⟨hcz9_0, hcz9_1, hfz9_0, hfz9_1⟩ := b2 BK101
     have p102 : 0 ≤ (x8_1 : Int) := dt
     have q102 : x8_1 < (l0.length : Int) := dt
     obtain ⟨ad102, e102, hx102_0, hx102_1⟩ := at_T29 HR0.out x8_1 p102 q102
     cases e102
     replace hx102_0 := hc HB hx102_0
     replace hx102_1 := hc HB hx102_1
     replace p102 := eq_true p102
     replace q102 := eq_true q102
     go_wp2
     repeat (go_quiet (fail); try go_wp2)
     go_roundg k1
     case measure => have := HK1.out; omega
     case rel => exact ⟨(wrap64 (x8_1 + 1)), sd, H', ⟨by have := HK1.out; omega⟩, ⟨bk BK101⟩, ⟨bh⟩⟩
   ·rw [if_neg c4] at H
    have c4b0 := decide_eq_false c4
    clear c4
    obtain rfl := Option.some.inj H
    go_wp2
    repeat (go_quiet (fail); try go_wp2)
    go_ret
    exact ⟨by exact er, bh⟩
/-! ### cmp_Or_int: function 52 -/
def cmp_Or_int.l0 : Nat → Int → List Int → Int → Int → Option (Int)
 | 0, _, _, _, _ => none
 | k + 1, x3, x6, x7, x8 => if x8 < x7 then (if 0 ≤ x8 then (if x8 < (x6.length : Int) then (if (rd x6 x8) = x3 then (cmp_Or_int.l0 k x3 x6 x7 (wrap64 (x8 + 1))) else (some (rd x6 x8))) else (none)) else (none)) else (some x3)
def cmp_Or_int.f (k : Nat) (l0 : List Int) : Option (Int) := cmp_Or_int.l0 k 0 l0 (l0.length : Int) 0
set_option maxHeartbeats 8000000 in
set_option maxRecDepth 100000 in
theorem cmp_Or_int.calls (k : Nat) (A0 : Option Addr) (c0 : Nat) (l0 : List Int) (r : Int) (w : World) (hr0 : Kd.C (Kd.int .i64) w A0 l0.length l0) (hc0 : l0.length ≤ c0) (h : cmp_Or_int.f k l0 = some r) :
  Calls Try.prog 52 #[.slice A0 l0.length c0] w fun e w' => e = .returned (.int .i64 r) ∧ Drawn0 w w' := by
 have HR0 := Aside0.mk hr0
 have HC0 := Aside0.mk hc0
 clear hr0 hc0
 have H : (cmp_Or_int.l0 k 0 l0 (l0.length : Int) 0) = some r := h
 clear h
 have H' := Aside0.mk H
 clear H
 go_enter Try.func52, Try.ntmps52
 go_wp2
 go_loopg [8] k (fun kq v8 w' => ∃ (x8_1 : Int), v8 = .int .i64 x8_1 ∧ Aside0 (cmp_Or_int.l0 kq 0 l0 (l0.length : Int) x8_1 = some r) ∧ Aside0 (kq ≤ k) ∧ Drawn0 w w')
 case atStart => exact ⟨(0), sd, H', ⟨Nat.le_refl _⟩, by repeat (first | exact Drawn0.refl _ | apply Drawn0.step)⟩
 case round =>
  clear H'
  obtain ⟨x8_1, rfl, HA, HK1, ⟨m1, rfl⟩⟩ := hrel
  cases gk with
  | zero => exact absurd HA.out (by simp [cmp_Or_int.l0])
  | succ k1 =>
   have H := HA.out
   clear HA
   simp only [cmp_Or_int.l0] at H
   by_cases c2 : x8_1 < (l0.length : Int)
   ·rw [if_pos c2] at H
    have c2b0 := decide_eq_true c2
    clear c2
    replace H := oi H
    obtain ⟨c3, H⟩ := H
    have c3b0 := decide_eq_true c3
    clear c3
    replace H := oi H
    obtain ⟨c4, H⟩ := H
    have c4b0 := decide_eq_true c4
    clear c4
    by_cases c5 : (rd l0 x8_1) = 0
    ·rw [if_pos c5] at H
     have c5b0 : ((rd l0 x8_1) == 0) = true := beq_iff_eq.mpr c5
     have c5b1 : ((rd l0 x8_1) != 0) = false := bne_eq_false_iff_eq.mpr c5
     clear c5
     have H' := Aside0.mk H
     clear H
     have p101 : 0 ≤ (x8_1 : Int) := dt
     have q101 : x8_1 < (l0.length : Int) := dt
     obtain ⟨ad101, e101, hx101_0⟩ := Kd.at_int HR0.out x8_1 p101 q101
     cases e101
     replace p101 := eq_true p101
     replace q101 := eq_true q101
     go_wp2
     go_roundg k1
     case measure => have := HK1.out; omega
     case rel => exact ⟨(wrap64 (x8_1 + 1)), sd, H', ⟨by have := HK1.out; omega⟩, by repeat (first | exact Drawn0.refl _ | apply Drawn0.step)⟩
    ·rw [if_neg c5] at H
     have c5b0 : ((rd l0 x8_1) == 0) = false := beq_eq_false_iff_ne.mpr c5
     have c5b1 : ((rd l0 x8_1) != 0) = true := bne_iff_ne.mpr c5
     obtain rfl := Option.some.inj H
     have p101 : 0 ≤ (x8_1 : Int) := dt
     have q101 : x8_1 < (l0.length : Int) := dt
     obtain ⟨ad101, e101, hx101_0⟩ := Kd.at_int HR0.out x8_1 p101 q101
     cases e101
     replace p101 := eq_true p101
     replace q101 := eq_true q101
     go_wp2
     go_ret
     exact ⟨by first | rfl | (simp; done) | (simp [*]; done), by repeat (first | exact Drawn0.refl _ | apply Drawn0.step)⟩
   ·rw [if_neg c2] at H
    have c2b0 := decide_eq_false c2
    clear c2
    obtain rfl := Option.some.inj H
    go_wp2
    go_ret
    exact ⟨by first | rfl | (simp; done) | (simp [*]; done), by repeat (first | exact Drawn0.refl _ | apply Drawn0.step)⟩
/-! ### shape_lower: function 95 -/
def shape_lower.f (k : Nat) (a0_0 : Int) (a0_1 : Int) (a1_0 : Int) (a1_1 : Int) : Option (Int) := (cmp_Compare_int.f a0_1 a1_1).bind fun t103 => ((cmp_Compare_int.f a0_0 a1_0).bind fun t104 => ((cmp_Or_int.f k (([t103, t104] : List Int))).bind fun t108 => (some t108)))
def shape_lower.T1 : Bool × List (List Nat × List Nat) := (true, [([], []), ([0], [0]), ([], []), ([2], [2]), ([1, 3], [1, 3]), ([], []), ([5], [5]), ([], []), ([7], [7]), ([6, 8, 4], [6, 8]), ([4, 9], [4, 9]), ([10, 9], [10]), ([11, 11, 0, 1, 2, 3, 4, 5, 6, 7, 8, 9, 10, 11], [11])])
def shape_lower.B1 : List Nat := [0, 1, 0, 4, 15, 0, 32, 0, 128, 511, 1023, 2047, 4095]
theorem shape_lower.tab1 : rtab .any (opsOf Try.f95 1) = shape_lower.T1 := by kernel_rfl
theorem shape_lower.bits1 : waitsOk shape_lower.T1.2 shape_lower.B1 = true := by kernel_rfl
set_option maxHeartbeats 8000000 in
set_option maxRecDepth 100000 in
theorem shape_lower.calls (k : Nat) (a0_0 : Int) (a0_1 : Int) (a1_0 : Int) (a1_1 : Int) (r : Int) (w : World) (h : shape_lower.f k a0_0 a0_1 a1_0 a1_1 = some r) :
  Calls Try.prog 95 #[.agg #[.int .i64 a0_0, .int .i64 a0_1], .agg #[.int .i64 a1_0, .int .i64 a1_1]] w fun e w' => e = .returned (.int .i64 r) ∧ Below w.heap.size w w' := by
 have hu29 := Try.underlying29
 have HB := Aside0.mk (Below.refl w.heap.size w)
 have H : ((cmp_Compare_int.f a0_1 a1_1).bind fun t103 => ((cmp_Compare_int.f a0_0 a1_0).bind fun t104 => ((cmp_Or_int.f k (([t103, t104] : List Int))).bind fun t108 => (some t108)))) = some r := h
 clear h
 replace H := Option.bind_eq_some_iff.mp H
 obtain ⟨t103, A30, H⟩ := H
 try dsimp only at H
 have A3 := Aside0.mk A30
 clear A30
 replace H := Option.bind_eq_some_iff.mp H
 obtain ⟨t104, A40, H⟩ := H
 try dsimp only at H
 have A4 := Aside0.mk A40
 clear A40
 obtain ⟨y105, hy105⟩ : ∃ y_ : List Int, y_ = (([t103, t104] : List Int)) := ⟨_, rfl⟩
 replace H : ((cmp_Or_int.f k y105).bind fun t108 => (some t108)) = some r := by first | (rw [hy105]; with_reducible exact H) | (have H2_ := (Option.bind_some _ _).symm.trans H; rw [hy105]; with_reducible exact H2_) | (have H2_ := (Option.bind_some _ _).symm.trans H; with_reducible exact H2_) | with_reducible exact H | (rw [hy105]; exact H) | exact H
 have Ny105 := Aside0.mk hy105
 clear hy105
 replace H := Option.bind_eq_some_iff.mp H
 obtain ⟨t108, A50, H⟩ := H
 try dsimp only at H
 have A5 := Aside0.mk A50
 clear A50
 obtain rfl := Option.some.inj H
 go_enter Try.func95, Try.ntmps95
 try go_wp2_with (first | ((with_reducible refine gate_dst (N := 2) rfl ?_); refine bxe 2 #[.int .i64 a0_0, .int .i64 a0_1] 29 ?_; intro gb101 hg w6 hbox hb; have BK101 := Aside0.mk (hbox); have GW101 := Aside0.mk (gs hg : w.heap.size ≤ gb101); have GE101 := Aside0.mk (gs hg : w.heap.size ≤ gb101); replace HB := Aside0.mk (below_step bh hb); clear hb hbox hg) | ((with_reducible refine gate_dst (N := 3) rfl ?_); refine bxe 3 #[.int .i64 a1_0, .int .i64 a1_1] 29 ?_; intro gb102 hg w7 hbox hb; have BK102 := Aside0.mk (hbox); have GW102 := Aside0.mk (gs hg : w.heap.size ≤ gb102); have GE102 := Aside0.mk (gs hg : w.heap.size ≤ gb102); have NB101_102 := Aside0.mk ((by rw [hg]; exact Nat.ne_of_lt (kl BK101) : gb101 ≠ gb102)); have NB102_101 := Aside0.mk ((by rw [hg]; exact Nat.ne_of_gt (kl BK101) : gb102 ≠ gb101)); replace BK101 := kb BK101 hb; replace HB := Aside0.mk (below_step bh hb); clear hb hbox hg))
 replace BK101 := Aside0.mk (blk_drew BK101.out)
 replace BK102 := Aside0.mk (blk_drew BK102.out)
 replace HB := Aside0.mk (below_drew1 HB.out)
 refine start_ (n := 13) (S := fun w' => w'.cell? ⟨gb101, 0, none⟩ = some (.int .i64 a0_0) ∧ w'.cell? ⟨gb101, 1, none⟩ = some (.int .i64 a0_1) ∧ w'.cell? ⟨gb102, 0, none⟩ = some (.int .i64 a1_0) ∧ w'.cell? ⟨gb102, 1, none⟩ = some (.int .i64 a1_1)) (ds := []) #[N,N,N,N,N,N,N,N,N,N,N,N,N] (by kernel_rfl) rfl rfl ⟨bc BK101 0, bc BK101 1, bc BK102 0, bc BK102 1⟩ (fun hHeld => ?_); refine with_tabW shape_lower.tab1 shape_lower.bits1 (fun HT_ HW_ => ?_)
 generalize w7.drew = w8 at BK101 BK102 HB hHeld ⊢
 refine pu 0 5 HT_ ?_
 refine pu 2 7 HT_ ?_
 refine pu 5 10 HT_ ?_
 refine pu 7 12 HT_ ?_
 refine tk4 1 6 hHeld HT_ HW_ ?_
 refine tk4 3 8 hHeld HT_ HW_ ?_
 refine tk4 6 11 hHeld HT_ HW_ ?_
 refine tk4 8 13 hHeld HT_ HW_ ?_
 refine one_ (i := 4) (N := some 9) #[T,T,T,T,T,T,T,T,T,N,N,N,N] rfl rfl (on1 HT_) (by decide) (fun K hK => ?_)
 refine goes_ Try.func53 (by kernel_rfl) rfl #[.int .i64 a0_1, .int .i64 a1_1] (by rfl) rfl rfl sg ?_
 with_reducible refine (cmp_Compare_int.calls a0_1 a1_1 t103 _ A3.out).mono ?_
 rintro e w' ⟨rfl, ⟨nd, rfl⟩⟩
 refine ⟨_, rfl, ?_⟩
 refine hK.out _ _ ⟨bc BK101 0, bc BK101 1, bc BK102 0, bc BK102 1⟩ (fun hHeld => ?_)
 clear hK K
 refine nm 9 ?_
 refine one_ (i := 9) (N := some 14) #[T,T,T,T,T,T,T,T,T,T,N,N,N] rfl rfl (on1 HT_) (by decide) (fun K hK => ?_)
 refine goes_ Try.func53 (by kernel_rfl) rfl #[.int .i64 a0_0, .int .i64 a1_0] (by rfl) rfl rfl sg ?_
 with_reducible refine (cmp_Compare_int.calls a0_0 a1_0 t104 _ A4.out).mono ?_
 rintro e w' ⟨rfl, ⟨nd, rfl⟩⟩
 refine ⟨_, rfl, ?_⟩
 refine hK.out _ _ ⟨bc BK101 0, bc BK101 1, bc BK102 0, bc BK102 1⟩ (fun hHeld => ?_)
 clear hK K
 refine nm 14 ?_
 refine one_ (i := 10) (N := some 15) #[T,T,T,T,T,T,T,T,T,T,T,N,N] rfl rfl (on1 HT_) (by decide) (fun K hK => ?_)
 refine Kd.R_lit_step (Kd.int .i64) _ 3 ?hg (N := 15) ?hd (xs := ([t103, t104] : List Int)) (inner := [.int .i64 t103, .int .i64 t104]) (ok := fun _ => True) (okp := fun _ => True) ?hr ?hp (fun _ hk => hk) trivial (Below.refl _ _) (Nat.le_refl _) (by simp) ?_; (case hd => rfl); (case hg => rfl); (case hr => first | (go_simp; done) | (go_simp; rfl)); (case hp => exact (Reps.one (show Kd.M (Kd.int .i64) _ _ _ t103 [.int .i64 t103] from rfl) (Reps.one (show Kd.M (Kd.int .i64) _ _ _ t104 [.int .i64 t104] from rfl) (Reps.none _ _))))
 intro v106 w9 ho10 hb hg_ hnew_
 clear hg_ hnew_
 (first | rw [← Ny105.out] at ho10 | (simp only [Int.reduceToNat] at ho10; rw [← Ny105.out] at ho10))
 have HO107 := Aside0.mk (Kd.R_lower ho10 (below_size bh))
 replace BK101 := kb BK101 hb
 replace BK102 := kb BK102 hb
 replace HB := Aside0.mk (below_step bh hb)
 clear hb ho10
 obtain ⟨Ao11, co11, eo11⟩ := Kd.R_slice HO107.out
 (first | subst eo11 | (injection eo11 with f1_ f2_ f3_; have f4_ := f1_.symm; have f5_ := f3_.symm; clear f1_ f2_ f3_; subst f4_; subst f5_))
 refine hK.out _ _ ⟨bc BK101 0, bc BK101 1, bc BK102 0, bc BK102 1⟩ (fun hHeld => ?_)
 clear hK K
 refine nm 15 ?_
 refine one_ (i := 11) (N := some 16) #[T,T,T,T,T,T,T,T,T,T,T,T,N] rfl rfl (on1 HT_) (by decide) (fun K hK => ?_)
 refine goes_ Try.func52 (by kernel_rfl) rfl #[.slice Ao11 y105.length co11] (by rfl) rfl rfl sg ?_
 with_reducible refine (cmp_Or_int.calls k _ _ y105 t108 _ ?side1 ?side2 A5.out).mono ?_
 (case side1 => exact cs (Kd.R_reads' HO107.out).2.2)
 (case side2 => exact (Kd.R_reads' HO107.out).2.1)
 rintro e w' ⟨rfl, ⟨nd, rfl⟩⟩
 refine ⟨_, rfl, ?_⟩
 refine hK.out _ _ ⟨bc BK101 0, bc BK101 1, bc BK102 0, bc BK102 1⟩ (fun hHeld => ?_)
 clear hK K
 refine nm 16 ?_
 refine pu 12 4 HT_ ?_
 refine done_ (done_of HT_.out (by kernel_rfl)) ?_
 try go_wp2
 go_ret
 exact ⟨by exact er, bh⟩
/-! ### slices_MinFunc_lower: function 1094 -/
def slices_MinFunc_lower.l0 : Nat → List (S29) → Int → Int → Int → Option (Int × Int)
 | 0, _, _, _, _ => none
 | k + 1, x0, x6, x104000, x104001 => if x6 < (x0.length : Int) then (if 0 ≤ x6 then ((shape_lower.f k ((rd_T29 x0 x6).f0) ((rd_T29 x0 x6).f1) x104000 x104001).bind fun t105 => (if t105 < 0 then (slices_MinFunc_lower.l0 k x0 (wrap64 (x6 + 1)) ((rd_T29 x0 x6).f0) ((rd_T29 x0 x6).f1)) else (slices_MinFunc_lower.l0 k x0 (wrap64 (x6 + 1)) x104000 x104001))) else (none)) else (some (x104000, x104001))
def slices_MinFunc_lower.f (k : Nat) (l0 : List (S29))  : Option (Int × Int) := if (l0.length : Int) < 1 then (none) else (if 0 < (l0.length : Int) then (slices_MinFunc_lower.l0 k l0 1 ((rd_T29 l0 0).f0) ((rd_T29 l0 0).f1)) else (none))
def slices_MinFunc_lower.T7 : Bool × List (List Nat × List Nat) := (true, [([], []), ([], []), ([], []), ([1, 2], [1, 2]), ([3], [3]), ([], []), ([0, 4, 5], [0, 4, 5]), ([6], [6])])
def slices_MinFunc_lower.B7 : List Nat := [0, 0, 0, 6, 14, 0, 63, 127]
theorem slices_MinFunc_lower.tab7 : rtab .any (opsOf Try.f94 7) = slices_MinFunc_lower.T7 := by kernel_rfl
theorem slices_MinFunc_lower.bits7 : waitsOk slices_MinFunc_lower.T7.2 slices_MinFunc_lower.B7 = true := by kernel_rfl
set_option maxHeartbeats 8000000 in
set_option maxRecDepth 100000 in
theorem slices_MinFunc_lower.calls (k : Nat) (A0 : Option Addr) (c0 : Nat) (l0 : List (S29))  (r1 : Int) (r2 : Int) (w : World) (hr0 : Kd.C k29 w A0 l0.length l0) (hc0 : l0.length ≤ c0) (h : slices_MinFunc_lower.f k l0 = some (r1, r2)) :
  Calls Try.prog 94 #[.slice A0 l0.length c0, .func (.func 95) #[] #[]] w fun e w' => e = .returned (.agg #[.int .i64 r1, .int .i64 r2]) ∧ Below w.heap.size w w' := by
 have hu29 := Try.underlying29
 have HR0 := Aside0.mk hr0
 have HC0 := Aside0.mk hc0
 clear hr0 hc0
 have HB := Aside0.mk (Below.refl w.heap.size w)
 have H : (if (l0.length : Int) < 1 then (none) else (if 0 < (l0.length : Int) then (slices_MinFunc_lower.l0 k l0 1 ((rd_T29 l0 0).f0) ((rd_T29 l0 0).f1)) else (none))) = some (r1, r2) := h
 clear h
 replace H := oj H
 obtain ⟨c3, H⟩ := H
 have c3b0 := decide_eq_false c3
 have c3b1 : decide (l0.length < 1) = false := decide_eq_false (by omega)
 clear c3
 replace H := oi H
 obtain ⟨c4, H⟩ := H
 have c4b0 := decide_eq_true c4
 have c4b1 : decide (0 < l0.length) = true := decide_eq_true (by omega)
 clear c4
 have H' := Aside0.mk H
 clear H
 go_enter Try.func94, Try.ntmps94
 go_wp2_with (first | ((with_reducible refine gate_dst (N := 4) rfl ?_); refine bxe 4 #[.int .i64 0, .int .i64 0] 29 ?_; intro gb101 hg w5 hbox hb; have BK101 := Aside0.mk (hbox); have GW101 := Aside0.mk (gs hg : w.heap.size ≤ gb101); have GE101 := Aside0.mk (gs hg : w.heap.size ≤ gb101); replace HB := Aside0.mk (below_step bh hb); clear hb hbox hg; have p102 : 0 ≤ (0 : Int) := (by omega); have q102 : 0 < (l0.length : Int) := dt; obtain ⟨ad102, e102, hx102_0, hx102_1⟩ := at_T29 HR0.out 0 p102 q102; cases e102; have qi102 : (0 < l0.length) = True := eq_true (by omega); (try rw [show ((0 : Int)).toNat = 0 from rfl] at hx102_0); (try rw [show 0 * 2 = 0 from rfl] at hx102_0); (try rw [Addr.add_zero'] at hx102_0); (try rw [show ((0 : Int)).toNat = 0 from rfl] at hx102_1); (try rw [show 0 * 2 = 0 from rfl] at hx102_1); (try rw [Addr.add_zero'] at hx102_1); replace hx102_0 := (HB.out.cell (World.block_lt_of_cell? w _ hx102_0)).trans hx102_0; replace hx102_1 := (HB.out.cell (World.block_lt_of_cell? w _ hx102_1)).trans hx102_1; replace p102 := eq_true p102; replace q102 := eq_true q102) | ((with_reducible refine gate_dst (N := 5) rfl ?_); refine bxe 5 #[.int .i64 0, .int .i64 0] 29 ?_; intro gb103 hg w6 hbox hb; have BK103 := Aside0.mk (hbox); have GW103 := Aside0.mk (gs hg : w.heap.size ≤ gb103); have GE103 := Aside0.mk (gs hg : w.heap.size ≤ gb103); have NB101_103 := Aside0.mk ((by rw [hg]; exact Nat.ne_of_lt (kl BK101) : gb101 ≠ gb103)); have NB103_101 := Aside0.mk ((by rw [hg]; exact Nat.ne_of_gt (kl BK101) : gb103 ≠ gb101)); replace BK101 := kb BK101 hb; replace HB := Aside0.mk (below_step bh hb); clear hb hbox hg; have hnb7 := NB103_101.out; have hnc7 := NB101_103.out; have hcz8_0 : w6.cell? ⟨gb103, 0, none⟩ = some (.int .i64 0) := bc BK103 0; have hcz8_1 : w6.cell? ⟨gb103, 1, none⟩ = some (.int .i64 0) := bc BK103 1; have hfz8_0 := blk_frozen BK103.out 0; have hfz8_1 := blk_frozen BK103.out 1))
 go_loopg [6] k (fun kq v6 w' => ∃ (x6_1 : Int) (x104000_1 : Int) (x104001_1 : Int), v6 = .int .i64 x6_1 ∧ Aside0 (slices_MinFunc_lower.l0 kq l0 x6_1 x104000_1 x104001_1 = some (r1, r2)) ∧ Aside0 (kq ≤ k) ∧ Aside0 (w'.heap[gb101]? = some (.cells #[.int .i64 0, .int .i64 0] 29 (0, 0))) ∧ Aside0 (w'.heap[gb103]? = some (.cells #[.int .i64 x104000_1, .int .i64 x104001_1] 29 (0, 0))) ∧ Aside0 (Below w.heap.size w w'))
 case atStart => exact ⟨(1), ((rd_T29 l0 0).f0), ((rd_T29 l0 0).f1), sd, H', ⟨Nat.le_refl _⟩, ⟨by refine bd ?_; refine blk_far ?_ NB101_103.out _; refine bd ?_; refine blk_far ?_ NB101_103.out _; refine bd ?_; exact BK101.out⟩, ⟨by refine bd ?_; refine blk_put (cs := #[.int .i64 ((rd_T29 l0 0).f0), .int .i64 0]) ?_ 1 _ rfl; refine bd ?_; refine blk_put (cs := #[.int .i64 0, .int .i64 0]) ?_ 0 _ rfl; refine bd ?_; exact BK103.out⟩, ⟨bh⟩⟩
 case round =>
  clear H'
  (try clear c1); (try clear p1); (try clear q1); (try clear hx1); (try clear qi1); (try clear p2); (try clear c3); (try clear c3b0); (try clear c3b1); (try clear c4); (try clear c4b0); (try clear c4b1); (try clear c7); (try clear hcz8_0); (try clear hcz8_1); (try clear hfz8_0); (try clear hfz8_1); (try clear hx102_0); (try clear hx102_1); (try clear p102); (try clear q102)
  obtain ⟨x6_1, x104000_1, x104001_1, rfl, HA, HK1, BK101, BK103, HB⟩ := hrel
  cases gk with
  | zero => exact absurd HA.out (by simp [slices_MinFunc_lower.l0])
  | succ k1 =>
   have H := HA.out
   clear HA
   simp only [slices_MinFunc_lower.l0] at H
   by_cases c9 : x6_1 < (l0.length : Int)
   ·rw [if_pos c9] at H
    have c9b0 := decide_eq_true c9
    clear c9
    replace H := oi H
    obtain ⟨c10, H⟩ := H
    have c10b0 := decide_eq_true c10
    clear c10
    replace H := Option.bind_eq_some_iff.mp H
    obtain ⟨t105, A110, H⟩ := H
    replace H : (if t105 < 0 then (slices_MinFunc_lower.l0 k1 l0 (wrap64 (x6_1 + 1)) ((rd_T29 l0 x6_1).f0) ((rd_T29 l0 x6_1).f1)) else (slices_MinFunc_lower.l0 k1 l0 (wrap64 (x6_1 + 1)) x104000_1 x104001_1)) = some (r1, r2) := H
    have A11 := Aside0.mk A110
    clear A110
    by_cases c12 : t105 < 0
    ·rw [if_pos c12] at H
     have c12b0 := decide_eq_true c12
     clear c12
     have H' := Aside0.mk H
     clear H
     try go_wp2
     replace BK101 := Aside0.mk (blk_drew BK101.out)
     replace BK103 := Aside0.mk (blk_drew BK103.out)
     replace HB := Aside0.mk (below_drew1 HB.out)
     have p104 : 0 ≤ (x6_1 : Int) := dt
     have q104 : x6_1 < (l0.length : Int) := dt
     obtain ⟨ad104, e104, hx104_0, hx104_1⟩ := at_T29 HR0.out x6_1 p104 q104
     have hw104_1 := hx104_1
     have hw104_0 := hx104_0
     obtain rfl : ad102 = ad104 := (by injection e104)
     replace hx104_0 := hc HB hx104_0
     replace hx104_1 := hc HB hx104_1
     replace p104 := eq_true p104
     replace q104 := eq_true q104
     refine start_ (n := 8) (S := fun w' => w'.cell? ⟨gb103, 0, none⟩ = some (.int .i64 x104000_1) ∧ w'.cell? ⟨gb103, 1, none⟩ = some (.int .i64 x104001_1) ∧ w'.cell? (ad102.add ((x6_1).toNat * 2)) = some (.int .i64 ((rd_T29 l0 x6_1).f0)) ∧ w'.cell? ⟨(ad102.add ((x6_1).toNat * 2)).block, (ad102.add ((x6_1).toNat * 2)).off + 1, none⟩ = some (.int .i64 ((rd_T29 l0 x6_1).f1))) (ds := []) #[N,N,N,N,N,N,N,N] (by kernel_rfl) rfl rfl ⟨bc BK103 0, bc BK103 1, (hc HB hw104_0), (hc HB hw104_1)⟩ (fun hHeld => ?_); refine with_tabW slices_MinFunc_lower.tab7 slices_MinFunc_lower.bits7 (fun HT_ HW_ => ?_)
     generalize wr.drew = w13 at BK101 BK103 HB hx104_0 hx104_1 hHeld ⊢
     refine pu 0 20 HT_ ?_
     refine pu 1 21 HT_ ?_
     refine pu 2 22 HT_ ?_
     refine pu 3 23 HT_ ?_
     refine tk4 4 24 hHeld HT_ HW_ ?_
     refine tk4 5 25 hHeld HT_ HW_ ?_
     refine one_ (i := 6) (N := some 26) #[T,T,T,T,T,T,T,N] rfl rfl (on1 HT_) (by decide) (fun K hK => ?_)
     first | (refine goes_ Try.func95 (by kernel_rfl) rfl #[.agg #[.int .i64 ((rd_T29 l0 x6_1).f0), .int .i64 ((rd_T29 l0 x6_1).f1)], .agg #[.int .i64 x104000_1, .int .i64 x104001_1]] (by rfl) rfl rfl sg ?_) | (refine goesV_ Try.func95 (by kernel_rfl) rfl #[.agg #[.int .i64 ((rd_T29 l0 x6_1).f0), .int .i64 ((rd_T29 l0 x6_1).f1)], .agg #[.int .i64 x104000_1, .int .i64 x104001_1]] (by rfl) rfl rfl sg (by rfl) ?_)
     with_reducible refine (shape_lower.calls k1 ((rd_T29 l0 x6_1).f0) ((rd_T29 l0 x6_1).f1) x104000_1 x104001_1 t105 _ A11.out).mono ?_
     rintro e w14 ⟨rfl, hb⟩
     refine ⟨_, rfl, ?_⟩
     replace BK101 := kb BK101 hb
     replace BK103 := kb BK103 hb
     replace HB := Aside0.mk (below_step bh hb)
     (try clear hb); (try clear hb2); (try clear hk); (try clear hi)
     refine hK.out _ _ ⟨bc BK103 0, bc BK103 1, (hc HB hw104_0), (hc HB hw104_1)⟩ (fun hHeld => ?_)
     clear hK K
     refine nm 26 ?_
     refine pu 7 27 HT_ ?_
     refine done_ (done_of HT_.out (by kernel_rfl)) ?_
     have p106 : 0 ≤ (x6_1 : Int) := dt
     have q106 : x6_1 < (l0.length : Int) := dt
     obtain ⟨ad106, e106, hx106_0, hx106_1⟩ := at_T29 HR0.out x6_1 p106 q106
     obtain rfl : ad102 = ad106 := (by injection e106)
     replace hx106_0 := hc HB hx106_0
     replace hx106_1 := hc HB hx106_1
     replace p106 := eq_true p106
     replace q106 := eq_true q106
     have hnb15 := NB103_101.out
     have hnc15 := NB101_103.out
     obtain ⟨hcz16_0, hcz16_1, hfz16_0, hfz16_1⟩ := b2 BK103
     try go_wp2
     go_roundg k1
     case measure => have := HK1.out; omega
     case rel => exact ⟨(wrap64 (x6_1 + 1)), ((rd_T29 l0 x6_1).f0), ((rd_T29 l0 x6_1).f1), sd, H', ⟨by have := HK1.out; omega⟩, ⟨by refine bd ?_; refine blk_far ?_ NB101_103.out _; refine bd ?_; refine blk_far ?_ NB101_103.out _; refine bd ?_; exact BK101.out⟩, ⟨by refine bd ?_; refine blk_put (cs := #[.int .i64 ((rd_T29 l0 x6_1).f0), .int .i64 x104001_1]) ?_ 1 _ rfl; refine bd ?_; refine blk_put (cs := #[.int .i64 x104000_1, .int .i64 x104001_1]) ?_ 0 _ rfl; refine bd ?_; exact BK103.out⟩, ⟨bh⟩⟩
    ·rw [if_neg c12] at H
     have c12b0 := decide_eq_false c12
     clear c12
     have H' := Aside0.mk H
     clear H
     try go_wp2
     replace BK101 := Aside0.mk (blk_drew BK101.out)
     replace BK103 := Aside0.mk (blk_drew BK103.out)
     replace HB := Aside0.mk (below_drew1 HB.out)
     have p104 : 0 ≤ (x6_1 : Int) := dt
     have q104 : x6_1 < (l0.length : Int) := dt
     obtain ⟨ad104, e104, hx104_0, hx104_1⟩ := at_T29 HR0.out x6_1 p104 q104
     have hw104_1 := hx104_1
     have hw104_0 := hx104_0
     obtain rfl : ad102 = ad104 := (by injection e104)
     replace hx104_0 := hc HB hx104_0
     replace hx104_1 := hc HB hx104_1
     replace p104 := eq_true p104
     replace q104 := eq_true q104
     refine start_ (n := 8) (S := fun w' => w'.cell? ⟨gb103, 0, none⟩ = some (.int .i64 x104000_1) ∧ w'.cell? ⟨gb103, 1, none⟩ = some (.int .i64 x104001_1) ∧ w'.cell? (ad102.add ((x6_1).toNat * 2)) = some (.int .i64 ((rd_T29 l0 x6_1).f0)) ∧ w'.cell? ⟨(ad102.add ((x6_1).toNat * 2)).block, (ad102.add ((x6_1).toNat * 2)).off + 1, none⟩ = some (.int .i64 ((rd_T29 l0 x6_1).f1))) (ds := []) #[N,N,N,N,N,N,N,N] (by kernel_rfl) rfl rfl ⟨bc BK103 0, bc BK103 1, (hc HB hw104_0), (hc HB hw104_1)⟩ (fun hHeld => ?_); refine with_tabW slices_MinFunc_lower.tab7 slices_MinFunc_lower.bits7 (fun HT_ HW_ => ?_)
     generalize wr.drew = w17 at BK101 BK103 HB hx104_0 hx104_1 hHeld ⊢
     refine pu 0 20 HT_ ?_
     refine pu 1 21 HT_ ?_
     refine pu 2 22 HT_ ?_
     refine pu 3 23 HT_ ?_
     refine tk4 4 24 hHeld HT_ HW_ ?_
     refine tk4 5 25 hHeld HT_ HW_ ?_
     refine one_ (i := 6) (N := some 26) #[T,T,T,T,T,T,T,N] rfl rfl (on1 HT_) (by decide) (fun K hK => ?_)
     first | (refine goes_ Try.func95 (by kernel_rfl) rfl #[.agg #[.int .i64 ((rd_T29 l0 x6_1).f0), .int .i64 ((rd_T29 l0 x6_1).f1)], .agg #[.int .i64 x104000_1, .int .i64 x104001_1]] (by rfl) rfl rfl sg ?_) | (refine goesV_ Try.func95 (by kernel_rfl) rfl #[.agg #[.int .i64 ((rd_T29 l0 x6_1).f0), .int .i64 ((rd_T29 l0 x6_1).f1)], .agg #[.int .i64 x104000_1, .int .i64 x104001_1]] (by rfl) rfl rfl sg (by rfl) ?_)
     with_reducible refine (shape_lower.calls k1 ((rd_T29 l0 x6_1).f0) ((rd_T29 l0 x6_1).f1) x104000_1 x104001_1 t105 _ A11.out).mono ?_
     rintro e w18 ⟨rfl, hb⟩
     refine ⟨_, rfl, ?_⟩
     replace BK101 := kb BK101 hb
     replace BK103 := kb BK103 hb
     replace HB := Aside0.mk (below_step bh hb)
     (try clear hb); (try clear hb2); (try clear hk); (try clear hi)
     refine hK.out _ _ ⟨bc BK103 0, bc BK103 1, (hc HB hw104_0), (hc HB hw104_1)⟩ (fun hHeld => ?_)
     clear hK K
     refine nm 26 ?_
     refine pu 7 27 HT_ ?_
     refine done_ (done_of HT_.out (by kernel_rfl)) ?_
     try go_wp2
     go_roundg k1
     case measure => have := HK1.out; omega
     case rel => exact ⟨(wrap64 (x6_1 + 1)), (x104000_1), (x104001_1), sd, H', ⟨by have := HK1.out; omega⟩, ⟨bk BK101⟩, ⟨bk BK103⟩, ⟨bh⟩⟩
   ·rw [if_neg c9] at H
    have c9b0 := decide_eq_false c9
    clear c9
    simp only [Option.some.injEq, Prod.mk.injEq] at H
    obtain ⟨rfl, rfl⟩ := H
    have hnb19 := NB103_101.out
    have hnc19 := NB101_103.out
    obtain ⟨hcz20_0, hcz20_1, hfz20_0, hfz20_1⟩ := b2 BK103
    obtain ⟨hcz21_0, hcz21_1, hfz21_0, hfz21_1⟩ := b2 BK101
    go_wp2
    refine bodyPost_ret (results_cell_row rfl _ _ gb101 29 #[.int .i64 x104000_1, .int .i64 x104001_1] (0, 0) _ rfl (by refine bd ?_; refine blk_put (cs := #[.int .i64 x104000_1, .int .i64 0]) ?_ 1 _ rfl; refine bd ?_; refine blk_put (cs := #[.int .i64 0, .int .i64 0]) ?_ 0 _ rfl; refine bd ?_; exact BK101.out) Try.underlying29 rfl (by kernel_rfl)) rfl ?_
    exact ⟨by exact er, bh⟩
/-! ### shape_begun: function 58 -/
def shape_begun.f (k : Nat) (l0 : List (S29)) : Option ((List (S29))) := (slices_MinFunc_lower.f k l0).bind fun bt101 => ((api_Point_93.f k l0 bt101.1 bt101.2).bind fun t103 => (if 0 ≤ t103 then (if t103 ≤ (l0.length : Int) then ((api_Point_57.f k (([(l0.drop (t103 : Int).toNat), (l0.take (t103 : Int).toNat)] : List (List (S29))))).bind fun t117 => (some t117)) else (none)) else (none)))
def shape_begun.T2 : Bool × List (List Nat × List Nat) := (true, [([], []), ([], []), ([0, 1], [0, 1]), ([], []), ([], []), ([3, 4], [3, 4]), ([2, 5], [2, 5]), ([6], [6]), ([7, 7, 0, 1, 2, 3, 4, 5, 6, 7], [7])])
def shape_begun.B2 : List Nat := [0, 0, 3, 0, 0, 24, 63, 127, 255]
theorem shape_begun.tab2 : rtab .any (opsOf Try.f58 2) = shape_begun.T2 := by kernel_rfl
theorem shape_begun.bits2 : waitsOk shape_begun.T2.2 shape_begun.B2 = true := by kernel_rfl
set_option maxHeartbeats 8000000 in
set_option maxRecDepth 100000 in
theorem shape_begun.calls (k : Nat) (P0_ : Nat → Prop) (A0 : Option Addr) (c0 : Nat) (l0 : List (S29)) (r : List (S29)) (w : World) (hs0 : Kd.V k29 29 w w.heap.size (fun k_ => P0_ k_) (.slice A0 l0.length c0) l0) (h : shape_begun.f k l0 = some r) :
  Calls Try.prog 58 #[.slice A0 l0.length c0] w fun e w' => ∃ v0_ : Value, e = .returned (v0_) ∧ Kd.R k29 29 w' w.heap.size (fun k_ => (w.heap.size ≤ k_)) v0_ r ∧ Below w.heap.size w w' := by
 have HO0 := Aside0.mk (show Kd.V k29 29 w w.heap.size (fun k_ => (P0_ k_ ∨ w.heap.size ≤ k_)) (.slice A0 l0.length c0) l0 from Kd.V_mono hs0 (fun k_ hk => .inl hk))
 have HB := Aside0.mk (Below.refl w.heap.size w)
 have H : ((slices_MinFunc_lower.f k l0).bind fun bt101 => ((api_Point_93.f k l0 bt101.1 bt101.2).bind fun t103 => (if 0 ≤ t103 then (if t103 ≤ (l0.length : Int) then ((api_Point_57.f k (([(l0.drop (t103 : Int).toNat), (l0.take (t103 : Int).toNat)] : List (List (S29))))).bind fun t117 => (some t117)) else (none)) else (none)))) = some r := h
 clear h
 replace H := Option.bind_eq_some_iff.mp H
 obtain ⟨⟨t101, t102⟩, A20, H⟩ := H
 try dsimp only at H
 have A2 := Aside0.mk A20
 clear A20
 replace H := Option.bind_eq_some_iff.mp H
 obtain ⟨t103, A30, H⟩ := H
 try dsimp only at H
 have A3 := Aside0.mk A30
 clear A30
 replace H := oi H
 obtain ⟨c4, H⟩ := H
 have c4b0 := eq_true c4
 have c4b1 := decide_eq_true c4
 clear c4
 replace H := oi H
 obtain ⟨c5, H⟩ := H
 have c5b0 := eq_true c5
 have c5b1 := decide_eq_true c5
 clear c5
 obtain ⟨y104, hy104⟩ : ∃ y_ : List (S29), y_ = (l0.drop (t103 : Int).toNat) := ⟨_, rfl⟩
 replace H : ((api_Point_57.f k (([y104, (l0.take (t103 : Int).toNat)] : List (List (S29))))).bind fun t117 => (some t117)) = some r := by first | (rw [hy104]; with_reducible exact H) | (have H2_ := (Option.bind_some _ _).symm.trans H; rw [hy104]; with_reducible exact H2_) | (have H2_ := (Option.bind_some _ _).symm.trans H; with_reducible exact H2_) | with_reducible exact H | (rw [hy104]; exact H) | exact H
 have Ny104 := Aside0.mk hy104
 clear hy104
 have c6b0 := eq_true (dt : 0 ≤ t103)
 have c7b0 := eq_true (dt : t103 ≤ (l0.length : Int))
 obtain ⟨y109, hy109⟩ : ∃ y_ : List (S29), y_ = (l0.take (t103 : Int).toNat) := ⟨_, rfl⟩
 replace H : ((api_Point_57.f k (([y104, y109] : List (List (S29))))).bind fun t117 => (some t117)) = some r := by first | (rw [hy109]; with_reducible exact H) | (have H2_ := (Option.bind_some _ _).symm.trans H; rw [hy109]; with_reducible exact H2_) | (have H2_ := (Option.bind_some _ _).symm.trans H; with_reducible exact H2_) | with_reducible exact H | (rw [hy109]; exact H) | exact H
 have Ny109 := Aside0.mk hy109
 clear hy109
 obtain ⟨y114, hy114⟩ : ∃ y_ : List (List (S29)), y_ = (([y104, y109] : List (List (S29)))) := ⟨_, rfl⟩
 replace H : ((api_Point_57.f k y114).bind fun t117 => (some t117)) = some r := by first | (rw [hy114]; with_reducible exact H) | (have H2_ := (Option.bind_some _ _).symm.trans H; rw [hy114]; with_reducible exact H2_) | (have H2_ := (Option.bind_some _ _).symm.trans H; with_reducible exact H2_) | with_reducible exact H | (rw [hy114]; exact H) | exact H
 have Ny114 := Aside0.mk hy114
 clear hy114
 replace H := Option.bind_eq_some_iff.mp H
 obtain ⟨t117, A80, H⟩ := H
 try dsimp only at H
 have A8 := Aside0.mk A80
 clear A80
 obtain rfl := Option.some.inj H
 go_enter Try.func58, Try.ntmps58
 try go_wp2_with (first | ((with_reducible refine gc 94 rfl ?_); refine goesL_ (some 6) rfl rfl Try.func94 (by kernel_rfl) rfl #[.slice A0 l0.length c0, .func (.func 95) #[] #[]] rfl sg ?_; (with_reducible refine (slices_MinFunc_lower.calls k _ _ l0  t101 t102 _ ?side1 ?side2 A2.out).mono ?_); (case side1 => exact cs (Kd.V_reads' HO0.out).2.2); (case side2 => exact (Kd.V_reads' HO0.out).2.1); rintro e w9 ⟨rfl, hb⟩; refine ⟨_, rfl, ?_⟩; replace HO0 := Aside0.mk (Kd.V_below (vo HO0) hb); replace HB := Aside0.mk (below_step bh hb); (try clear hb); (try clear hb2); (try clear hk); (try clear hi)) | ((with_reducible refine gc 93 rfl ?_); refine goesL_ (some 7) rfl rfl Try.func93 (by kernel_rfl) rfl #[.slice A0 l0.length c0, .agg #[.int .i64 t101, .int .i64 t102]] rfl sg ?_; (with_reducible refine (api_Point_93.calls k _ _ l0 t101 t102 t103 _ ?side1 ?side2 A3.out).mono ?_); (case side1 => exact cs (Kd.V_reads' HO0.out).2.2); (case side2 => exact (Kd.V_reads' HO0.out).2.1); rintro e w10 ⟨rfl, hb⟩; refine ⟨_, rfl, ?_⟩; replace HO0 := Aside0.mk (Kd.V_below (vo HO0) hb); replace HB := Aside0.mk (below_step bh hb); (try clear hb); (try clear hb2); (try clear hk); (try clear hi)))
 replace HO0 := Aside0.mk (Kd.V_drew HO0.out)
 replace HB := Aside0.mk (below_drew1 HB.out)
 have q12 : (t103 : Int) ≤ ((l0.length : Int) : Int) := dt
 obtain ⟨i012, hi012, _, hsz12, _⟩ := info_parts info29
 have hroom12 : l0.length ≤ c0 := (Kd.V_reads' HO0.out).2.1
 have hC12 : Kd.F k29 _ _ A0 l0.length l0 := (Kd.V_at (base := w.heap.size) HO0.out).2.2
 have q012 : (0 : Int) ≤ (t103 : Int) := dt
 have hcut12 := cut_from (P := Try.prog) 22 29 .i64 Try.underlying22 hi012 2 hsz12 A0 l0.length c0 t103 q012 q12
 have hr12 := Kd.F_cut (m := (t103 : Int).toNat) (c := c0) hC12 (by omega) hroom12
 obtain ⟨A12, hA12⟩ : ∃ A1, A1 = (if c0 = (t103 : Int).toNat then A0 else (A0 : Option Addr).map (·.add ((t103 : Int).toNat * 2))) := ⟨_, rfl⟩
 obtain ⟨c12, hc12⟩ : ∃ c1, c1 = c0 - (t103 : Int).toNat := ⟨_, rfl⟩
 have hy12 : y104.length = l0.length - (t103 : Int).toNat := (by rw [Ny104.out, List.length_drop] <;> omega)
 rw [show (l0).drop (t103 : Int).toNat = y104 from Ny104.out.symm] at hr12
 replace hr12 : Kd.F k29 _ _ A12 y104.length y104 := (by rw [hA12]; exact hr12)
 rw [← hy12, ← hA12, ← hc12] at hcut12
 have HO108 := Aside0.mk (show Kd.V k29 29 _ w.heap.size _ (.slice A12 y104.length c12) y104 from Kd.V_mk (by rw [hy12, hc12]; exact Nat.sub_le_sub_right hroom12 _) hr12)
 have HC108 := Aside0.mk (show y104.length ≤ c12 from by rw [hy12, hc12]; exact Nat.sub_le_sub_right hroom12 _)
 clear hr12 hC12 hroom12 hi012 hsz12 hc12
 have KY12 := Aside0.mk hy12
 have KA12 := Aside0.mk hA12
 clear hy12 hA12
 replace q12 := eq_true q12
 have q13 : (t103 : Int) ≤ ((l0.length : Int) : Int) := dt
 obtain ⟨i013, hi013, _, hsz13, _⟩ := info_parts info29
 have hroom13 : l0.length ≤ c0 := (Kd.V_reads' HO0.out).2.1
 have hC13 : Kd.F k29 _ _ A0 l0.length l0 := (Kd.V_at (base := w.heap.size) HO0.out).2.2
 have hcut13 := cut_to (P := Try.prog) 22 29 .i64 Try.underlying22 hi013 A0 l0.length c0 t103 (dt) q13 hroom13
 have hr13 := Kd.F_take (m := (t103 : Int).toNat) hC13 (by omega)
 have hy13 : y109.length = (t103 : Int).toNat := (by rw [Ny109.out, List.length_take]; omega)
 rw [← Ny109.out] at hr13
 rw [← hy13] at hcut13
 have HO113 := Aside0.mk (show Kd.V k29 29 _ w.heap.size _ (.slice A0 y109.length c0) y109 from Kd.V_mk (by omega) hr13)
 have HC113 := Aside0.mk (show y109.length ≤ c0 from by omega)
 clear hr13 hC13 hroom13 hi013 hsz13
 have KY13 := Aside0.mk hy13
 clear hy13
 replace q13 := eq_true q13
 refine start_ (n := 9) (S := fun w' => True) (ds := []) #[N,N,N,N,N,N,N,N,N] (by kernel_rfl) rfl rfl trivial (fun hHeld => ?_); refine with_tabW shape_begun.tab2 shape_begun.bits2 (fun HT_ HW_ => ?_)
 generalize w10.drew = w11 at HO0 HB HO108 HO113 hHeld ⊢
 refine pu 0 8 HT_ ?_
 refine pu 1 9 HT_ ?_
 refine pu 2 10 HT_ ?_
 refine pu 3 11 HT_ ?_
 refine pu 4 12 HT_ ?_
 refine pu 5 13 HT_ ?_
 refine one_ (i := 6) (N := some 14) #[T,T,T,T,T,T,T,N,N] rfl rfl (on1 HT_) (by decide) (fun K hK => ?_)
 refine Kd.N_lit_step (Kd.slice 29 k29) _ 22 ?hg (N' := 14) ?hd (xs := ([y104, y109] : List (List (S29)))) (inner := [.slice A12 y104.length c12, .slice A0 y109.length c0]) (ok := (fun k_ => (P0_ k_ ∨ w.heap.size ≤ k_))) (okp := (fun k_ => (P0_ k_ ∨ w.heap.size ≤ k_))) ?hr ?hp (fun _ hk => hk) ((show ∀ k_, w11.heap.size ≤ k_ → (fun k_ => (P0_ k_ ∨ w.heap.size ≤ k_)) k_ from fun k_ hk => (.inr (Nat.le_trans (below_size bh) hk))) _ (Nat.le_refl _)) (Below.refl _ _) (Nat.le_refl _) (by simp) ?_; (case hd => rfl); (case hg => rfl); (case hr => first | (go_simp; done) | (go_simp; rfl)); (case hp => exact (Reps.one (show Kd.FK (Kd.slice 29 k29) _ _ y104 [.slice A12 y104.length c12] from (Kd.FK_slice_mk (Kd.V_reads' (Kd.V_mono (ok' := (fun k_ => (P0_ k_ ∨ w.heap.size ≤ k_))) (HO108.out) (fun k_ hk => hk))).2.1 (Kd.V_F (Kd.V_mono (ok' := (fun k_ => (P0_ k_ ∨ w.heap.size ≤ k_))) (HO108.out) (fun k_ hk => hk))))) (Reps.one (show Kd.FK (Kd.slice 29 k29) _ _ y109 [.slice A0 y109.length c0] from (Kd.FK_slice_mk (Kd.V_reads' (Kd.V_mono (ok' := (fun k_ => (P0_ k_ ∨ w.heap.size ≤ k_))) (HO113.out) (fun k_ hk => hk))).2.1 (Kd.V_F (Kd.V_mono (ok' := (fun k_ => (P0_ k_ ∨ w.heap.size ≤ k_))) (HO113.out) (fun k_ hk => hk))))) (Reps.none _ _))))
 intro v115 w14 ho15 hb hg_ hnew_
 clear hg_ hnew_
 (first | rw [← Ny114.out] at ho15 | (simp only [Int.reduceToNat] at ho15; rw [← Ny114.out] at ho15))
 have HO116 := Aside0.mk (Kd.N_lower ho15 (below_size bh))
 replace HO0 := Aside0.mk (Kd.V_elder' (vo HO0) (Kd.N_base ho15) hb)
 replace HO108 := Aside0.mk (Kd.V_elder' (vo HO108) (Kd.N_base ho15) hb)
 replace HO113 := Aside0.mk (Kd.V_elder' (vo HO113) (Kd.N_base ho15) hb)
 replace HB := Aside0.mk (below_step bh hb)
 clear hb ho15
 obtain ⟨Ao16, co16, eo16⟩ := Kd.N_slice HO116.out
 (first | subst eo16 | (injection eo16 with f1_ f2_ f3_; have f4_ := f1_.symm; have f5_ := f3_.symm; clear f1_ f2_ f3_; subst f4_; subst f5_))
 refine hK.out _ _ trivial (fun hHeld => ?_)
 clear hK K
 refine nm 14 ?_
 refine one_ (i := 7) (N := some 15) #[T,T,T,T,T,T,T,T,N] rfl rfl (on1 HT_) (by decide) (fun K hK => ?_)
 refine goes_ Try.func57 (by kernel_rfl) rfl #[.slice Ao16 y114.length co16] (by rfl) rfl rfl sg ?_
 with_reducible refine (api_Point_57.calls k _ _ y114 t117 _ ?side1 ?side2 A8.out).mono ?_
 (case side1 => exact cs (Kd.N_reads' HO116.out).2.2)
 (case side2 => exact (Kd.N_reads' HO116.out).2.1)
 rintro e w17 ⟨v118, rfl, ho0, hb⟩
 refine ⟨_, rfl, ?_⟩
 have HO119 := Aside0.mk (Kd.R_lower (Kd.R_newM (M := fun k_ => (w.heap.size ≤ k_)) ho0 (below_size bh) (fun k_ h_ => h_)) (below_size bh))
 replace HO0 := Aside0.mk (Kd.V_elder' (vo HO0) (Kd.R_base ho0) hb)
 replace HO108 := Aside0.mk (Kd.V_elder' (vo HO108) (Kd.R_base ho0) hb)
 replace HO113 := Aside0.mk (Kd.V_elder' (vo HO113) (Kd.R_base ho0) hb)
 replace HO116 := Aside0.mk (Kd.N_elder' (no HO116) (Kd.R_base ho0) hb)
 replace HB := Aside0.mk (below_step bh hb)
 (try clear hb); (try clear hb2); (try clear hk); (try clear hi); (try clear ho0)
 refine hK.out _ _ trivial (fun hHeld => ?_)
 clear hK K
 refine nm 15 ?_
 refine pu 8 2 HT_ ?_
 refine done_ (done_of HT_.out (by kernel_rfl)) ?_
 try go_wp2
 go_ret
 exact ⟨_, by exact er, by (with_reducible repeat (first | apply Kd.R_alloc | apply Kd.R_drewN | apply Kd.R_drew)); exact Kd.R_mono HO119.out (fun _ hk => hk.1), bh⟩
end Go.Proofs.Ytoffmpkgickfhaa.PG
end
section
namespace Go.Proofs.Ytoffmpkgickfhaa.PG
open Go.RowKit Go.Proofs.YtoffmpkgickfhaaW.PrintWords Go.Proofs.YtoffmpkgickfhaaW.PrintLast Go.Proofs.YtoffmpkgickfhaaW.PrintMore
def slices_Clone.f (l0 : List (S29)) : Option (List S29) := if l0.length < 8796093022208 then some l0 else none
set_option maxHeartbeats 2000000 in
theorem slices_Clone.calls (A0 : Option Addr) (c0 : Nat) (l0 : List (S29)) (r : List S29) (w : World) (hr0 : Kd.C k29 w A0 l0.length l0) (_hc0 : l0.length ≤ c0) (h : slices_Clone.f l0 = some r) :
  Calls Try.prog 49 #[.slice A0 l0.length c0] w fun e w' => ∃ v0_ : Value, e = .returned (v0_) ∧ Kd.R k29 29 w' w.heap.size (fun _ => True) v0_ r ∧ Below w.heap.size w w' := by
 unfold slices_Clone.f at h
 by_cases hl : l0.length < 8796093022208
 ·rw [if_pos hl] at h
  obtain rfl := Option.some.inj h
  clear h
  have q22 : ∀ (w : World) (a : Option Addr) (n c n' c' : Nat), (binOp .eql 22 (.slice a n c) (.slice none n' c')).run Try.prog w = .ok (.bool a.isNone) w := fun w a n c n' c' => Lib.run_eql_slice_nil w _ _ a n c n' c' Try.underlying22
  cases A0 with
  | none =>
   have h0 : l0 = [] := by
    cases l0 with
    | nil => rfl
    | cons x t => obtain ⟨ad, e, _⟩ := at_T29 hr0 0 (by omega) (by simp); cases e
   subst h0
   clear hr0
   go_enter Try.func49, Try.ntmps49
   go_wp2
   go_ret
   exact ⟨_, rfl, ⟨fun k hk => by simp [Value.ownBlock] at hk, [], own_nil _ _ _ _, Reps.none _ _⟩, Below.refl _ _⟩
  | some a0 =>
   have HR := Aside0.mk hr0
   have HB := Aside0.mk (Below.refl w.heap.size w)
   clear hr0
   have HL := Aside0.mk hl
   clear hl
   go_enter Try.func49, Try.ntmps49
   go_wp2_with (first | ((with_reducible refine gate_dst (N := 5) rfl ?_); refine Kd.R_lit k29 _ 29 ?hg (N := 5) ?hd (xs := ([] : List (S29))) (inner := []) (ok := fun _ => True) (okp := fun _ => True) ?hr ?hp (fun _ hk => hk) trivial (Below.refl _ _) (Nat.le_refl _) (by simp) ?_; (case hd => rfl); (case hg => rfl); (case hr => first | (go_simp; done) | (go_simp; rfl)); (case hp => exact (Reps.none _ _)); intro v5 w5 ho5 hb hg_ hnew_; clear hg_ hnew_; have HO := Aside0.mk (Kd.R_lower ho5 HB.out.size); have n1_ := Aside0.mk (below_step HB.out hb); clear HB; have HB := n1_; clear n1_; clear hb ho5) | ((with_reducible refine gate_builtin (b := .append) (xs := #[.tmp 5, .tmp 6]) rfl ?_); at_builtin; refine Kd.R_append_rows k29 (w0 := w) w.heap.size rfl (.tmp 5) (.tmp 6) 22 29 (.agg #[(.int .i64 0), (.int .i64 0)]) 16 rfl Try.underlying22 info29 rfl (by decide) (by omega) v5 ([] : List S29) l0 _ _ _ (fun _ => True) (fun _ => False) rfl rfl ?aO ?aR (fun _ _ h => h) (fun _ h => h.elim) ?aF ?aB ?aS ?aL ?_; (case aR => exact (Kd.C_below HR.out HB.out)); (case aB => exact HB.out); (case aF => exact (fun _ _ => trivial)); (case aO => exact HO.out); (case aS => exact HB.out.size); (case aL => have := HL.out; simp; omega); intro v7 w7 ho hb hg hat; clear HB; have HB := Aside0.mk hb; have HO7 := Aside0.mk ho; clear HO ho hb hg hat))
   go_ret
   exact ⟨_, rfl, by rw [List.nil_append] at HO7; exact HO7.out, HB.out⟩
 ·rw [if_neg hl] at h; cases h
end Go.Proofs.Ytoffmpkgickfhaa.PG
end
section
namespace Go.Proofs.Ytoffmpkgickfhaa.PG
open Go.RowKit Go.Proofs.YtoffmpkgickfhaaW.PrintWords Go.Proofs.YtoffmpkgickfhaaW.PrintLast Go.Proofs.YtoffmpkgickfhaaW.PrintMore
attribute [local go_sem high] eqA29
def slices_Compact.g : List S29 → List S29
 | [] => []
 | [a] => [a]
 | a :: b :: l => if a.f0 = b.f0 ∧ a.f1 = b.f1 then slices_Compact.g (b :: l) else a :: slices_Compact.g (b :: l)
def slices_Compact.f (l0 : List (S29)) : Option (List S29) := some (slices_Compact.g l0)
def cg := slices_Compact.g
theorem cg_snoc (a b : S29) : ∀ q : List S29, cg (q ++ [a] ++ [b]) = if a.f0 = b.f0 ∧ a.f1 = b.f1 then cg (q ++ [a]) else cg (q ++ [a]) ++ [b] := by
 intro q
 induction q with
 | nil =>
  simp only [List.nil_append, List.cons_append, cg, slices_Compact.g]
  split
  ·rename_i h; cases a; cases b; simp at h; simp [h]
  ·rfl
 | cons c q ih =>
  cases q with
  | nil =>
   simp only [List.nil_append, List.cons_append, cg, slices_Compact.g] at ih ⊢
   by_cases h1 : c.f0 = a.f0 ∧ c.f1 = a.f1 <;> by_cases h2 : a.f0 = b.f0 ∧ a.f1 = b.f1 <;> simp [h1, h2] at ih ⊢
   all_goals (cases a; cases b; simp_all)
  | cons d q =>
   simp only [List.cons_append, cg, slices_Compact.g] at ih ⊢
   rw [ih]
   by_cases h1 : c.f0 = d.f0 ∧ c.f1 = d.f1 <;> by_cases h2 : a.f0 = b.f0 ∧ a.f1 = b.f1 <;> simp [h1, h2]
theorem cg_take (l : List S29) (m : Nat) (h1 : 1 ≤ m) (h : m < l.length) : cg (l.take (m + 1)) = if (rd_T29 l ((m : Int) - 1)).f0 = (rd_T29 l m).f0 ∧ (rd_T29 l ((m : Int) - 1)).f1 = (rd_T29 l m).f1 then cg (l.take m) else cg (l.take m) ++ [rd_T29 l m] := by
 have e1 : rd_T29 l m = l[m] := by simp [rd_T29, List.getD_eq_getElem?_getD, h]
 have e0 : rd_T29 l ((m : Int) - 1) = l[m - 1] := by
  unfold rd_T29
  rw [show ((m : Int) - 1).toNat = m - 1 by omega, List.getD_eq_getElem?_getD, List.getElem?_eq_getElem (by omega)]; rfl
 have e2 : l.take m = l.take (m - 1) ++ [l[m - 1]] := by
  have := List.take_succ_eq_append_getElem (l := l) (i := m - 1) (by omega)
  rw [show m - 1 + 1 = m by omega] at this; exact this
 rw [e0, e1, List.take_succ_eq_append_getElem h, e2, cg_snoc]
theorem cg_all (l : List S29) (m : Nat) (h1 : 1 ≤ m) (h : m ≤ l.length) (hd : ∀ j, 1 ≤ j → j < m → ¬ ((rd_T29 l ((j : Int) - 1)).f0 = (rd_T29 l j).f0 ∧ (rd_T29 l ((j : Int) - 1)).f1 = (rd_T29 l j).f1)) : cg (l.take m) = l.take m := by
 induction m with
 | zero => omega
 | succ m ih =>
  rcases Nat.eq_zero_or_pos m with rfl | hm
  ·cases l with
   | nil => simp at h
   | cons a l => simp [cg, slices_Compact.g]
  ·rw [cg_take l m hm (by omega), if_neg (hd m hm (by omega)), ih hm (by omega) (fun j h1 h2 => hd j h1 (by omega)), List.take_succ_eq_append_getElem (by omega)]
   have e1 : rd_T29 l m = l[m] := by simp [rd_T29, List.getD_eq_getElem?_getD, show m < l.length by omega]
   rw [e1]
theorem setCells_row {w : World} {g : Nat} : ∀ (vs : List Value) (o : Nat) (wr : World) (cur : Array Value), w.grownBy wr (some g) → wr.heap[g]? = some (.cells cur 29 (0, 0)) →
  w.grownBy (wr.setCells g o vs) (some g) ∧ ∃ cur', (wr.setCells g o vs).heap[g]? = some (.cells cur' 29 (0, 0)) ∧ cur'.size = cur.size ∧ ∀ i, i < o → cur'[i]? = cur[i]?
 | [], o, wr, cur, hg, hh => ⟨hg, cur, hh, rfl, fun _ _ => rfl⟩
 | v :: r, o, wr, cur, hg, hh => by
  obtain ⟨h1, cur', h2, h3, h4⟩ := setCells_row r (o + 1) (wr.setCell ⟨g, o, none⟩ v) _ (grown_set hg o v) (blk_set hh o v)
  refine ⟨h1, cur', h2, by rw [h3]; simp, fun i hi => ?_⟩
  rw [h4 i (by omega), Array.getElem?_setIfInBounds_ne (by omega)]
theorem clear_run (wr : World) (g o m c : Nat) (cur : Array Value) (ty : TypeId) (hh : wr.heap[g]? = some (.cells cur 29 (0, 0))) (hm : 0 < m) (hs : o + m * 2 ≤ cur.size) :
  (Builtin.clear_ #[22] ty #[.slice (some ⟨g, o, none⟩) m c]).run Try.prog wr = .ok (.tuple #[]) (wr.setCells g o (List.replicate (m * 2) (.int .i64 0))) := by
 have hv : ∀ w, (zeroValue 29).run Try.prog w = .ok (.agg #[.int .i64 0, .int .i64 0]) w := fun w => by kernel_rfl
 have hz : (Value.agg #[.int .i64 0, .int .i64 0]).cells = #[.int .i64 0, .int .i64 0] := by kernel_rfl
 have hzc : (Builtin.zeroCells #[Value.int .i64 0, .int .i64 0] m).toList = List.replicate (m * 2) (.int .i64 0) := by
  simp [Builtin.zeroCells]
  apply List.ext_getElem
  ·simp
  ·intro i h1 h2
   simp
   have : i % 2 = 0 ∨ i % 2 = 1 := by omega
   rcases this with e | e <;> simp [e]
 have hst := run_storeCells_cells (P := Try.prog) g o (List.replicate (m * 2) (.int .i64 0)) 0 wr (by
   intro j hj
   simp at hj
   rw [blk_cell hh, Array.getElem?_eq_getElem (by omega)]; rfl) (by intro j _; exact blk_frozen hh _) (by intro v hv'; rw [List.eq_of_mem_replicate hv']; rfl)
 simp only [Nat.add_zero] at hst
 obtain ⟨m', rfl⟩ : ∃ m', m = m' + 1 := ⟨m - 1, by omega⟩
 simp [Builtin.clear_, run_underlying Try.underlying22, hv, hz, hzc, hst]
set_option maxHeartbeats 4000000 in
set_option maxRecDepth 100000 in
theorem slices_Compact.calls (P0_ : Nat → Prop) (u9000_ : Value) (l0 : List (S29)) (r : List (S29)) (w0 w : World) (hB : Below w0.heap.size w0 w) (ho0 : Kd.R k29 29 w w0.heap.size P0_ u9000_ l0) (h : slices_Compact.f l0 = some r) :
  Calls Try.prog 54 #[u9000_] w fun e w' => ∃ v0_ : Value, e = .returned (v0_) ∧ Kd.R k29 29 w' w0.heap.size (fun k_ => (P0_ k_ ∨ w.heap.size ≤ k_)) v0_ r ∧ Below w0.heap.size w0 w' ∧ Kept w w' (fun k_ => P0_ k_) := by
 obtain rfl := Option.some.inj h
 clear h
 by_cases hn : l0.length < 2
 ·have e : slices_Compact.g l0 = l0 := by
   match l0, hn with
   | [], _ => rfl
   | [a], _ => rfl
  rw [e]
  obtain ⟨A, c, rfl⟩ := Kd.R_slice ho0
  have HO := Aside0.mk ho0
  have HB := Aside0.mk hB
  clear ho0 e hB
  have hlt : decide (l0.length < 2) = true := decide_eq_true hn
  have hlt' : decide ((l0.length : Int) < 2) = true := decide_eq_true (by omega)
  generalize hn' : l0.length = n at *
  clear hn
  go_enter Try.func54, Try.ntmps54
  go_wp2
  go_ret
  exact ⟨_, rfl, by first | exact Kd.R_mono HO.out (fun k hk => .inl hk), HB.out, ⟨Nat.le_refl _, fun _ _ _ => rfl⟩⟩
 ·obtain ⟨g, cap, cur, rfl, hb, hh, hnc, hcm, hsz, hPg, hp⟩ := row_open ho0 (by omega)
  clear ho0
  have HP := Aside0.mk hp
  have HB := Aside0.mk hB
  have HPg := Aside0.mk hPg
  have HH := Aside0.mk hh
  have HS := Aside0.mk hsz
  have hcap : cap ≤ 9223372036854775807 := by unfold maxLen at hcm; exact hcm
  have HCM := Aside0.mk hcm
  have HBG := Aside0.mk hb
  clear hp hB hPg hh hsz hcm hb
  have HR := Aside0.mk (show slices_Compact.g l0 = cg l0 from rfl)
  obtain ⟨n, hn'⟩ : ∃ n, l0.length = n := ⟨_, rfl⟩
  rw [hn'] at hn hnc ⊢
  have HN := Aside0.mk hn'
  clear hn'
  have hu29 := Try.underlying29
  have hge : ¬ ((n : Int) < 2) := by omega
  go_enter Try.func54, Try.ntmps54
  go_wp2
  go_loopg [3, 4, 5] n (fun gg s3 s4 s5 wr => ∃ kk : Nat, 1 ≤ kk ∧ kk ≤ n ∧ n - kk ≤ gg ∧ s3 = .int .i64 kk ∧ (∃ q, Aside0 (wr = w.drewN q)) ∧ Aside0 (∀ j, 1 ≤ j → j < kk → ¬ ((rd_T29 l0 ((j : Int) - 1)).f0 = (rd_T29 l0 j).f0 ∧ (rd_T29 l0 ((j : Int) - 1)).f1 = (rd_T29 l0 j).f1)))
  case atStart => exact ⟨1, by omega, by omega, by omega, by go_num, ⟨0, ⟨rfl⟩⟩, ⟨fun j h1 h2 => by omega⟩⟩
  case round =>
   obtain ⟨kk, hk1, hkn, hg, rfl, ⟨q, HW⟩, HD⟩ := hrel
   obtain ⟨wr', HW'⟩ : ∃ w', w' = wr := ⟨_, rfl⟩
   have hhr : wr.heap[g]? = some (.cells cur 29 (0, 0)) := by rw [HW.out]; exact HH.out
   by_cases hlt : kk < n
   ·have hltz : (kk : Int) < (n : Int) := by omega
    have ea := (HP.out kk (by rw [HN.out]; exact hlt))
    have eb := (HP.out (kk - 1) (by rw [HN.out]; omega))
    have hx0 : wr.cell? ⟨g, kk * 2, none⟩ = some (.int .i64 (rd_T29 l0 kk).f0) := by
     rw [blk_cell hhr, Nat.mul_comm, ea.1]; simp [rd_T29, List.getD_eq_getElem?_getD, HN.out, hlt]
    have hx1 : wr.cell? ⟨g, kk * 2 + 1, none⟩ = some (.int .i64 (rd_T29 l0 kk).f1) := by
     rw [blk_cell hhr, Nat.mul_comm, ea.2]; simp [rd_T29, List.getD_eq_getElem?_getD, HN.out, hlt]
    have hz : ((kk : Int) - 1).toNat = kk - 1 := by omega
    have hy0 : wr.cell? ⟨g, (kk - 1) * 2, none⟩ = some (.int .i64 (rd_T29 l0 ((kk : Int) - 1)).f0) := by
     rw [blk_cell hhr, Nat.mul_comm, eb.1]; simp [rd_T29, List.getD_eq_getElem?_getD, hz, HN.out, show kk - 1 < n by omega]
    have hy1 : wr.cell? ⟨g, (kk - 1) * 2 + 1, none⟩ = some (.int .i64 (rd_T29 l0 ((kk : Int) - 1)).f1) := by
     rw [blk_cell hhr, Nat.mul_comm, eb.2]; simp [rd_T29, List.getD_eq_getElem?_getD, hz, HN.out, show kk - 1 < n by omega]
    have HHR := Aside0.mk hhr
    clear ea eb hhr
    generalize hqa : rd_T29 l0 kk = qa at hx0 hx1
    generalize hqb : rd_T29 l0 ((kk : Int) - 1) = qb at hy0 hy1
    have QA := Aside0.mk hqa
    have QB := Aside0.mk hqb
    clear hqa hqb
    have hw1 : IntKind.i64.wrap ((kk : Int) - 1) = (kk : Int) - 1 := IntWalk.i64_in _ (by omega)
    have hw0 : 0 ≤ (kk : Int) - 1 := by omega
    by_cases heq : qa.f0 = qb.f0 ∧ qa.f1 = qb.f1
    ·have hb1 : (qa.f0 == qb.f0 && qa.f1 == qb.f1) = true := by simp [heq.1, heq.2]
     clear heq
     go_wp2
     repeat (go_quiet (fail); try go_wp2)
     have HK := Aside0.mk (show cg (l0.take (kk + 1)) = l0.take kk by
      rw [cg_take l0 kk hk1 (by rw [HN.out]; exact hlt), if_pos, cg_all l0 kk hk1 (by rw [HN.out]; omega) HD.out]
      rw [QA.out, QB.out]; simp at hb1; exact ⟨hb1.1.symm, hb1.2.symm⟩)
     clear hx0 hx1 hy0 hy1 hb1
     obtain ⟨wo, rfl⟩ : ∃ wo : World, wo = wr := ⟨_, rfl⟩
     go_loopg [3, 5] (n - kk) (fun gg s3 s5 wr => ∃ (k2 kw : Nat) (cur2 : Array Value) (L : List S29), 1 ≤ k2 ∧ kk + k2 ≤ n ∧ n - kk - k2 ≤ gg ∧ s5 = .int .i64 k2 ∧ s3 = .int .i64 kw ∧ kw < kk + k2 ∧ 1 ≤ kw ∧ Aside0 (L.take kw = cg (l0.take (kk + k2))) ∧ Aside0 (L.length = n) ∧ Aside0 (∀ j : Nat, kk + k2 ≤ j + 1 → j < n → rd_T29 L j = rd_T29 l0 j) ∧ Aside0 (cur2.size = cap * 2) ∧ Aside0 (Pts cur2 L) ∧ Aside0 (w.grownBy wr (some g)) ∧ Aside0 (wr.heap[g]? = some (.cells cur2 29 (0, 0))))
     case atStart =>
      refine ⟨1, kk, cur, l0, by omega, by omega, by omega, by go_num, rfl, by omega, hk1, ⟨HK.out.symm⟩, ⟨HN.out⟩, ⟨fun _ _ _ => rfl⟩, ⟨HS.out⟩, ⟨HP.out⟩, ⟨?_⟩, ⟨HHR.out⟩⟩
      rw [HW.out]
      (repeat refine grown_drewN ?_ _)
      exact ⟨rfl, rfl, rfl, Nat.le_refl _, fun _ _ _ => rfl⟩
     case round =>
      obtain ⟨k2, kw, cur2, L, h21, h2n, hg2, rfl, rfl, hkw, hkw1, HL, HLN, HLR, HS2, HP2, HG2, HH2⟩ := hrel
      by_cases hlt2 : kk + k2 < n
      ·have hltz2 : (k2 : Int) < ((n - kk : Nat) : Int) := by omega
       have elen : L.length = n := HLN.out
       have ea := (HP2.out (kk + k2) (by omega))
       have eb := (HP2.out (kk + k2 - 1) (by omega))
       have ga : rd_T29 L ((kk + k2 : Nat) : Int) = L[kk + k2]'(by omega) := rd_nat _ _ _
       have gb : rd_T29 L ((kk + k2 - 1 : Nat) : Int) = L[kk + k2 - 1]'(by omega) := rd_nat _ _ _
       have ra := HLR.out (kk + k2) (by omega) (by omega)
       have rb := HLR.out (kk + k2 - 1) (by omega) (by omega)
       rw [← ga] at ea
       rw [← gb] at eb
       rw [ra] at ea
       rw [rb] at eb
       have hx0 : wr.cell? ⟨g, kk * 2 + k2 * 2, none⟩ = some (.int .i64 (rd_T29 l0 ((kk + k2 : Nat) : Int)).f0) := by
        rw [blk_cell HH2.out, show kk * 2 + k2 * 2 = 2 * (kk + k2) by omega]; exact ea.1
       have hx1 : wr.cell? ⟨g, kk * 2 + k2 * 2 + 1, none⟩ = some (.int .i64 (rd_T29 l0 ((kk + k2 : Nat) : Int)).f1) := by
        rw [blk_cell HH2.out, show kk * 2 + k2 * 2 + 1 = 2 * (kk + k2) + 1 by omega]; exact ea.2
       have hy0 : wr.cell? ⟨g, kk * 2 + (k2 - 1) * 2, none⟩ = some (.int .i64 (rd_T29 l0 ((kk + k2 - 1 : Nat) : Int)).f0) := by
        rw [blk_cell HH2.out, show kk * 2 + (k2 - 1) * 2 = 2 * (kk + k2 - 1) by omega]; exact eb.1
       have hy1 : wr.cell? ⟨g, kk * 2 + (k2 - 1) * 2 + 1, none⟩ = some (.int .i64 (rd_T29 l0 ((kk + k2 - 1 : Nat) : Int)).f1) := by
        rw [blk_cell HH2.out, show kk * 2 + (k2 - 1) * 2 + 1 = 2 * (kk + k2 - 1) + 1 by omega]; exact eb.2
       clear ea eb ga gb ra rb
       have hw1 : IntKind.i64.wrap ((k2 : Int) - 1) = (k2 : Int) - 1 := IntWalk.i64_in _ (by omega)
       have hw0 : 0 ≤ (k2 : Int) - 1 := by omega
       have hz2 : ((k2 : Int) - 1).toNat = k2 - 1 := by omega
       have ct := cg_take l0 (kk + k2) (by omega) (by rw [HN.out]; exact hlt2)
       rw [show ((kk + k2 : Nat) : Int) - 1 = ((kk + k2 - 1 : Nat) : Int) by omega] at ct
       generalize hqa : rd_T29 l0 ((kk + k2 : Nat) : Int) = ya at hx0 hx1 ct
       generalize hqb : rd_T29 l0 ((kk + k2 - 1 : Nat) : Int) = yb at hy0 hy1 ct
       have CT := Aside0.mk ct
       have YA := Aside0.mk hqa
       clear hqa hqb ct elen
       by_cases heq : ya.f0 = yb.f0 ∧ ya.f1 = yb.f1
       ·have hb2 : (!(ya.f0 == yb.f0) || !(ya.f1 == yb.f1)) = false := by simp [heq.1, heq.2]
        have CE := Aside0.mk heq
        clear heq
        go_wp2
        repeat (go_quiet (fail); try go_wp2)
        go_roundg (n - kk - (k2 + 1))
        case measure => omega
        case rel =>
         refine ⟨k2 + 1, kw, cur2, L, by omega, by omega, Nat.le_refl _, by go_num, rfl, by omega, hkw1, ⟨?_⟩, HLN, ⟨fun j h1 h2 => HLR.out j (by omega) h2⟩, HS2, HP2, ⟨by (repeat refine grown_drewN ?_ _); exact HG2.out⟩, ⟨HH2.out⟩⟩
         rw [HL.out, show kk + (k2 + 1) = kk + k2 + 1 by omega, CT.out, if_pos ⟨CE.out.1.symm, CE.out.2.symm⟩]
       ·have hb2 : (!(ya.f0 == yb.f0) || !(ya.f1 == yb.f1)) = true := by simp; by_cases h : ya.f0 = yb.f0; (exact .inr fun h' => heq ⟨h, h'⟩); (exact .inl h)
        have CE := Aside0.mk heq
        clear heq
        have hkwn : kw < n := by omega
        have hv0 := blk_cell HH2.out (kw * 2)
        have hv1 := blk_cell HH2.out (kw * 2 + 1)
        rw [Array.getElem?_eq_getElem (by rw [HS2.out]; omega)] at hv0 hv1
        have hf0 := blk_frozen HH2.out (kw * 2)
        have hf1 := blk_frozen HH2.out (kw * 2 + 1)
        generalize cur2[kw * 2]'(by rw [HS2.out]; omega) = o0 at hv0
        generalize cur2[kw * 2 + 1]'(by rw [HS2.out]; omega) = o1 at hv1
        go_wp2
        repeat (go_quiet (fail); try go_wp2)
        go_roundg (n - kk - (k2 + 1))
        case measure => omega
        case rel =>
         have elen : L.length = n := HLN.out
         refine ⟨k2 + 1, kw + 1, _, L.set kw ya, by omega, by omega, Nat.le_refl _, by go_num, by go_num, by omega, by omega, ⟨?_⟩, ⟨by rw [List.length_set]; exact elen⟩, ⟨fun j h1 h2 => ?_⟩, ⟨?_⟩, ⟨pts_set ya HP2.out (by rw [HS2.out]; omega) (by omega)⟩, ⟨?_⟩, ⟨?_⟩⟩
         ·rw [show kk + (k2 + 1) = kk + k2 + 1 by omega, CT.out, if_neg (fun h => CE.out ⟨h.1.symm, h.2.symm⟩), List.take_succ_eq_append_getElem (by rw [List.length_set]; omega), List.getElem_set_self, List.take_set_of_le (Nat.le_refl _), HL.out]
         ·rw [rd_nat _ _ (by rw [List.length_set]; omega), List.getElem_set_ne (by omega), ← rd_nat L j (by omega)]
          exact HLR.out j (by omega) h2
         ·rw [Array.size_setIfInBounds, Array.size_setIfInBounds]; exact HS2.out
         ·refine grown_set ?_ _ _
          refine grown_set ?_ _ _
          (repeat refine grown_drewN ?_ _)
          exact HG2.out
         ·exact blk_set (blk_set HH2.out _ _) _ _
      ·have hend : kk + k2 = n := by omega
       have hnl : ¬ (k2 : Int) < ((n - kk : Nat) : Int) := by omega
       have hcl : ∀ ty, (Builtin.clear_ #[22] ty #[.slice (some ⟨g, kw * 2, none⟩) (n - kw) (cap - kw)]).run Try.prog wr = .ok (.tuple #[]) (wr.setCells g (kw * 2) (List.replicate ((n - kw) * 2) (.int .i64 0))) :=
        fun ty => clear_run wr g (kw * 2) (n - kw) (cap - kw) cur2 ty HH2.out (by omega) (by rw [HS2.out]; omega)
       have hlw : kw ≤ n := by omega
       go_wp2
       go_ret
       obtain ⟨sg, cur3, sh, ss, sp⟩ := setCells_row (List.replicate ((n - kw) * 2) (.int .i64 0)) (kw * 2) wr cur2 HG2.out HH2.out
       have e1 : L.take kw = slices_Compact.g l0 := by
        rw [HL.out, hend, HR.out, List.take_of_length_le (by rw [HN.out]; omega)]
       have e2 : kw = (slices_Compact.g l0).length := by
        rw [← e1, List.length_take, HLN.out]; omega
       refine ⟨_, rfl, ?_, grown_below HB.out sg HBG.out, grown_kept sg HPg.out⟩
       have hpt : Pts cur3 (slices_Compact.g l0) := by
        intro j hj
        have h1 := pts_take kw HP2.out
        rw [e1] at h1
        have h2 := h1 j hj
        rw [sp (2 * j) (by omega), sp (2 * j + 1) (by omega)]
        exact h2
       have := row_shut (P := fun k_ => (P0_ k_ ∨ w.heap.size ≤ k_)) HBG.out sh (l := slices_Compact.g l0) (cap := cap) (by omega) HCM.out (by rw [ss]; exact HS2.out) (.inl HPg.out) hpt
       rw [← e2] at this
       exact this
    ·have hb1 : (qa.f0 == qb.f0 && qa.f1 == qb.f1) = false := by simpa using heq
     have HNE := Aside0.mk heq
     clear heq
     go_wp2
     repeat (go_quiet (fail); try go_wp2)
     go_roundg (n - (kk + 1))
     case measure => omega
     case rel =>
      refine ⟨kk + 1, by omega, by omega, Nat.le_refl _, by go_num, ?_, ⟨fun j h1 h2 => ?_⟩⟩
      ·rw [HW.out]
       refine ⟨_, ⟨World.drewN_drewN _ _ _⟩⟩
      ·by_cases e : j = kk
       ·subst e
        rw [QA.out, QB.out]
        exact fun h => HNE.out ⟨h.1.symm, h.2.symm⟩
       ·exact HD.out j h1 (by omega)
   ·have hnl : ¬ (kk : Int) < (n : Int) := by omega
    have hkk : kk = n := by omega
    subst hkk
    have e1 : slices_Compact.g l0 = l0 := by
     have := cg_all l0 kk hk1 (by rw [HN.out]; omega) HD.out
     rw [List.take_of_length_le (by rw [HN.out]; omega)] at this
     exact this
    have E1 := Aside0.mk e1
    clear hlt e1
    go_wp2
    go_ret
    have hgr : w.grownBy wr (some g) := by rw [HW.out]; exact ⟨rfl, rfl, rfl, Nat.le_refl _, fun _ _ _ => rfl⟩
    rw [E1.out]
    refine ⟨_, rfl, ?_, grown_below HB.out hgr HBG.out, grown_kept hgr HPg.out⟩
    have := row_shut (P := fun k_ => (P0_ k_ ∨ w.heap.size ≤ k_)) HBG.out hhr (l := l0) (cap := cap) (by rw [HN.out]; omega) HCM.out HS.out (.inl HPg.out) HP.out
    rw [HN.out] at this
    exact this
end Go.Proofs.Ytoffmpkgickfhaa.PG
end
section
namespace Go.Proofs.Ytoffmpkgickfhaa.PG
open Go.RowKit Go.Proofs.YtoffmpkgickfhaaW.PrintWords Go.Proofs.YtoffmpkgickfhaaW.PrintLast Go.Proofs.YtoffmpkgickfhaaW.PrintMore
instance : Inhabited S29 := ⟨z29⟩
def enc29 (x : S29) : List Value := [.int .i64 x.f0, .int .i64 x.f1]
theorem enc29_one (x : S29) : ∀ v ∈ enc29 x, v.oneCell' = true := by
 intro v hv; simp [enc29] at hv; rcases hv with rfl | rfl <;> rfl
theorem flat29 (d : Array S29) (j : Nat) (h : j < d.size) : (Go.Sort.flatK enc29 2 d)[2 * j]! = .int .i64 d[j].f0 ∧ (Go.Sort.flatK enc29 2 d)[2 * j + 1]! = .int .i64 d[j].f1 := by
 rw [Go.Sort.get_flatK _ _ _ _ (by omega), Go.Sort.get_flatK _ _ _ _ (by omega)]
 rw [show 2 * j / 2 = j by omega, show 2 * j % 2 = 0 by omega, show (2 * j + 1) / 2 = j by omega, show (2 * j + 1) % 2 = 1 by omega, getElem!_pos d j h]
 exact ⟨rfl, rfl⟩
theorem holds_of {w : World} {g : Nat} {cur : Array Value} {l : List S29} (hh : w.heap[g]? = some (.cells cur 29 (0, 0))) (hp : Pts cur l) : Go.Sort.HoldsK enc29 2 w g 0 l.toArray := by
 intro j hj
 rw [Go.Sort.size_flatK] at hj
 simp only [List.size_toArray] at hj
 refine ⟨?_, blk_frozen hh _⟩
 rw [blk_cell hh, Nat.zero_add]
 have hf := flat29 l.toArray (j / 2) (by simp; omega)
 have hc := hp (j / 2) (by omega)
 rcases Nat.mod_two_eq_zero_or_one j with e | e
 ·rw [show j = 2 * (j / 2) by omega]
  rw [hc.1]; simp only [id]; rw [hf.1]; simp
 ·rw [show j = 2 * (j / 2) + 1 by omega]
  rw [hc.2]; simp only [id]; rw [hf.2]; simp
theorem put_at {w : World} {g : Nat} {cur : Array Value} (m : Nat) (d : Array S29) (os : Array Obj) (hh : w.heap[g]? = some (.cells cur 29 (0, 0))) (hs : d.size * 2 ≤ cur.size) :
  ∃ cur', (sortWorldK enc29 2 w g 0 m d os).heap[g]? = some (.cells cur' 29 (0, 0)) ∧ cur'.size = cur.size ∧ Pts cur' d.toList ∧ w.grownBy (sortWorldK enc29 2 w g 0 m d os) (some g) := by
 have hlt : g < w.heap.size := blk_lt hh
 have e1 : (sortWorldK enc29 2 w g 0 m d os).heap = w.heap.modify g (Go.Sort.onCells (Go.Sort.putCells id 0 (Go.Sort.flatK enc29 2 d))) ++ os := rfl
 refine ⟨Go.Sort.putCells id 0 (Go.Sort.flatK enc29 2 d) cur, ?_, ?_, ?_, ?_⟩
 ·rw [e1, Array.getElem?_append_left (by simpa using hlt), Array.getElem?_modify, if_pos rfl, hh]; rfl
 ·simp [Go.Sort.putCells]
 ·intro j hj
  simp only [Array.length_toList] at hj
  have hf := flat29 d j hj
  unfold Go.Sort.putCells
  rw [Array.getElem?_mapIdx, Array.getElem?_mapIdx, Array.getElem?_eq_getElem (by omega), Array.getElem?_eq_getElem (by omega)]
  simp only [Option.map_some, Go.Sort.size_flatK, id]
  rw [if_pos (by omega), if_pos (by omega), Nat.sub_zero, Nat.sub_zero, hf.1, hf.2]
  simp
 ·refine ⟨rfl, rfl, rfl, ?_, fun k hk hne => ?_⟩
  ·rw [e1]; simp
  ·rw [e1, Array.getElem?_append_left (by simpa using hk), Array.getElem?_modify, if_neg (fun e => hne (by rw [e]))]
end Go.Proofs.Ytoffmpkgickfhaa.PG
end
section
namespace Go.Proofs
open Go.Shelf
def Try.reversePt_ren : Go.Shelf.Ren := ⟨fun | 35 => 56 | n => n, fun | 22 => 22 | 23 => 29 | 3 => 3 | 4 => 4 | 0 => 0 | n => n, fun | n => n⟩
theorem Try.reversePt : Go.Proofs.SlLaysE0.n35 Try.prog Try.reversePt_ren := {
 mixed := by kernel_rfl
 f35 := ⟨Try.f56.name, by decide, Try.func56.trans (congrArg some (by kernel_rfl))⟩
 t0 := Try.underlying0
 a0 := Try.isAgg0
 z0 := Try.sizeOf0
 v0 := Try.zeroValue0
 t3 := Try.underlying3
 a3 := Try.isAgg3
 z3 := Try.sizeOf3
 v3 := Try.zeroValue3
 t4 := Try.underlying4
 a4 := Try.isAgg4
 z4 := Try.sizeOf4
 v4 := Try.zeroValue4
 t22 := Try.underlying22
 a22 := Try.isAgg22
 z22 := Try.sizeOf22
 v22 := Try.zeroValue22 }
def Try.sortPt_ren : Go.Shelf.Ren := ⟨fun | 6 => 50 | 15 => 89 | 14 => 88 | 28 => 118 | 29 => 119 | 20 => 110 | 21 => 111 | 22 => 112 | 23 => 113 | 24 => 114 | 25 => 115 | 26 => 116 | 27 => 117 | 46 => 123 | 47 => 124 | 48 => 125 | 49 => 126 | 50 => 127 | 57 => 130 | n => n, fun | 22 => 22 | 24 => 29 | 25 => 71 | 3 => 3 | 39 => 92 | 0 => 0 | 53 => 109 | 55 => 111 | 4 => 4 | 46 => 102 | 45 => 101 | 50 => 106 | 5 => 5 | 9 => 9 | 66 => 114 | 70 => 118 | 76 => 120 | 77 => 121 | n => n, fun | n => n⟩
theorem Try.sortPt : Go.Proofs.SlLaysF0.n6 Try.prog Try.sortPt_ren := {
 mixed := by kernel_rfl
 f6 := ⟨Try.f50.name, by decide, Try.func50.trans (congrArg some (by kernel_rfl))⟩
 f14 := ⟨Try.f88.name, by decide, Try.func88.trans (congrArg some (by kernel_rfl))⟩
 f15 := Try.func89.trans (congrArg some (by kernel_rfl))
 f20 := ⟨Try.f110.name, by decide, Try.func110.trans (congrArg some (by kernel_rfl))⟩
 f21 := ⟨Try.f111.name, by decide, Try.func111.trans (congrArg some (by kernel_rfl))⟩
 f22 := ⟨Try.f112.name, by decide, Try.func112.trans (congrArg some (by kernel_rfl))⟩
 f23 := ⟨Try.f113.name, by decide, Try.func113.trans (congrArg some (by kernel_rfl))⟩
 f24 := ⟨Try.f114.name, by decide, Try.func114.trans (congrArg some (by kernel_rfl))⟩
 f25 := ⟨Try.f115.name, by decide, Try.func115.trans (congrArg some (by kernel_rfl))⟩
 f26 := ⟨Try.f116.name, by decide, Try.func116.trans (congrArg some (by kernel_rfl))⟩
 f27 := ⟨Try.f117.name, by decide, Try.func117.trans (congrArg some (by kernel_rfl))⟩
 f28 := Try.func118.trans (congrArg some (by kernel_rfl))
 f29 := Try.func119.trans (congrArg some (by kernel_rfl))
 f46 := ⟨Try.f123.name, by decide, Try.func123.trans (congrArg some (by kernel_rfl))⟩
 f47 := Try.func124.trans (congrArg some (by kernel_rfl))
 f48 := Try.func125.trans (congrArg some (by kernel_rfl))
 f49 := ⟨Try.f126.name, by decide, Try.func126.trans (congrArg some (by kernel_rfl))⟩
 f50 := ⟨Try.f127.name, by decide, Try.func127.trans (congrArg some (by kernel_rfl))⟩
 f57 := ⟨Try.f130.name, by decide, Try.func130.trans (congrArg some (by kernel_rfl))⟩
 t0 := Try.underlying0
 a0 := Try.isAgg0
 z0 := Try.sizeOf0
 v0 := Try.zeroValue0
 t3 := Try.underlying3
 a3 := Try.isAgg3
 z3 := Try.sizeOf3
 v3 := Try.zeroValue3
 t4 := Try.underlying4
 a4 := Try.isAgg4
 z4 := Try.sizeOf4
 v4 := Try.zeroValue4
 t5 := Try.underlying5
 a5 := Try.isAgg5
 z5 := Try.sizeOf5
 v5 := Try.zeroValue5
 t9 := Try.underlying9
 a9 := Try.isAgg9
 z9 := Try.sizeOf9
 v9 := Try.zeroValue9
 t22 := Try.underlying22
 a22 := Try.isAgg22
 z22 := Try.sizeOf22
 v22 := Try.zeroValue22
 t25 := Try.underlying71
 a25 := Try.isAgg71
 z25 := Try.sizeOf71
 v25 := Try.zeroValue71
 t39 := Try.underlying92
 a39 := Try.isAgg92
 z39 := Try.sizeOf92
 v39 := Try.zeroValue92
 t45 := Try.underlying101
 a45 := Try.isAgg101
 z45 := Try.sizeOf101
 v45 := Try.zeroValue101
 t46 := Try.underlying102
 a46 := Try.isAgg102
 z46 := Try.sizeOf102
 v46 := Try.zeroValue102
 t50 := Try.underlying106
 a50 := Try.isAgg106
 z50 := Try.sizeOf106
 v50 := Try.zeroValue106
 t53 := Try.underlying109
 a53 := Try.isAgg109
 z53 := Try.sizeOf109
 v53 := Try.zeroValue109
 t55 := Try.underlying111
 a55 := Try.isAgg111
 z55 := Try.sizeOf111
 v55 := Try.zeroValue111
 t66 := Try.underlying114
 a66 := Try.isAgg114
 z66 := Try.sizeOf114
 v66 := Try.zeroValue114
 t70 := Try.underlying118
 a70 := Try.isAgg118
 z70 := Try.sizeOf118
 v70 := Try.zeroValue118
 t76 := Try.underlying120
 a76 := Try.isAgg120
 z76 := Try.sizeOf120
 v76 := Try.zeroValue120
 t77 := Try.underlying121
 a77 := Try.isAgg121
 z77 := Try.sizeOf121
 v77 := Try.zeroValue121 }
end Go.Proofs
end
section
namespace Go.Proofs.Ytoffmpkgickfhaa.PG
open Go.RowKit Go.Proofs.YtoffmpkgickfhaaW.PrintWords Go.Proofs.YtoffmpkgickfhaaW.PrintLast Go.Proofs.YtoffmpkgickfhaaW.PrintMore
def slices_Reverse.f (l0 : List (S29)) : Option (List S29) := some l0.reverse
theorem slices_Reverse.calls (P0_ : Nat → Prop) (u9000_ : Value) (l0 : List (S29)) (r : List (S29)) (w0 w : World) (hB : Below w0.heap.size w0 w) (ho0 : Kd.R k29 29 w w0.heap.size P0_ u9000_ l0) (h : slices_Reverse.f l0 = some r) :
  Calls Try.prog 56 #[u9000_] w fun e w' => e = .returned (.tuple #[]) ∧ Kd.R k29 29 w' w0.heap.size (fun k_ => (P0_ k_ ∨ w.heap.size ≤ k_)) u9000_ r ∧ Below w0.heap.size w0 w' ∧ Kept w w' (fun k_ => P0_ k_) := by
 obtain rfl := Option.some.inj h
 clear h
 by_cases hl : l0.length = 0
 ·obtain ⟨A, c, rfl⟩ := Kd.R_slice ho0
  have e0 : l0 = [] := List.eq_nil_of_length_eq_zero hl
  subst e0
  have hc := AnyQ.slices_Reverse_empty Try.reversePt A c w
  change Calls Try.prog 56 _ _ _ at hc
  refine hc.mono fun e w' hh => ?_
  obtain ⟨he, rfl⟩ := hh
  exact ⟨he, Kd.R_mono ho0 (fun k hk => .inl hk), hB, ⟨Nat.le_refl _, fun _ _ _ => rfl⟩⟩
 ·obtain ⟨g, cap, cur, rfl, hb, hh, hnc, hcm, hsz, hPg, hp⟩ := row_open ho0 (by omega)
  have hm : l0.length ≤ 9223372036854775807 := by unfold maxLen at hcm; omega
  have hc := AnyQ.slices_Reverse Try.reversePt 2 Try.isAgg29 Try.sizeOf29 enc29 (fun _ => rfl) enc29_one g 0 cap l0.toArray w (holds_of hh hp) (by simpa using hm)
  change Calls Try.prog 56 _ _ _ at hc
  simp only [List.size_toArray] at hc
  refine hc.mono fun e w' hx => ?_
  obtain ⟨he, n, rfl⟩ := hx
  obtain ⟨cur', p1, p2, p3, p4⟩ := put_at n l0.toArray.reverse #[] hh (by simp; omega)
  have e1 : sortWorldK enc29 2 w g 0 n l0.toArray.reverse #[] = Go.Sort.putRowK enc29 2 (Go.Sort.ahead w n) g 0 l0.toArray.reverse := by unfold sortWorldK; rw [Go.Sort.grow_empty]
  rw [e1] at p1 p4
  have e2 : l0.toArray.reverse.toList = l0.reverse := by simp
  rw [e2] at p3
  have := row_shut (P := fun k_ => (P0_ k_ ∨ w.heap.size ≤ k_)) hb p1 (l := l0.reverse) (cap := cap) (by simpa using hnc) hcm (by rw [p2]; exact hsz) (.inl hPg) p3
  rw [List.length_reverse] at this
  exact ⟨he, this, grown_below hB p4 hb, grown_kept p4 hPg⟩
end Go.Proofs.Ytoffmpkgickfhaa.PG
end
section
namespace Go.Proofs.Ytoffmpkgickfhaa.PG
open Go.RowKit Go.Proofs.YtoffmpkgickfhaaW.PrintWords Go.Proofs.YtoffmpkgickfhaaW.PrintLast Go.Proofs.YtoffmpkgickfhaaW.PrintMore
attribute [local go_sem] max2_int min2_int max_two min_two max_three min_three max_four min_four
set_option linter.unusedVariables false
set_option linter.unusedSimpArgs false
/-! ### shape_Hull_1: function 51 -/
def shape_Hull_1.f (k : Nat) (a0_0 : Int) (a0_1 : Int) (a1_0 : Int) (a1_1 : Int) : Option (Int) := (cmp_Compare_int.f a0_0 a1_0).bind fun t103 => ((cmp_Compare_int.f a0_1 a1_1).bind fun t104 => ((cmp_Or_int.f k (([t103, t104] : List Int))).bind fun t108 => (some t108)))
def shape_Hull_1.T1 : Bool × List (List Nat × List Nat) := (true, [([], []), ([0], [0]), ([], []), ([2], [2]), ([1, 3], [1, 3]), ([], []), ([5], [5]), ([], []), ([7], [7]), ([6, 8, 4], [6, 8]), ([4, 9], [4, 9]), ([10, 9], [10]), ([11, 11, 0, 1, 2, 3, 4, 5, 6, 7, 8, 9, 10, 11], [11])])
def shape_Hull_1.B1 : List Nat := [0, 1, 0, 4, 15, 0, 32, 0, 128, 511, 1023, 2047, 4095]
theorem shape_Hull_1.tab1 : rtab .any (opsOf Try.f51 1) = shape_Hull_1.T1 := by kernel_rfl
theorem shape_Hull_1.bits1 : waitsOk shape_Hull_1.T1.2 shape_Hull_1.B1 = true := by kernel_rfl
set_option maxHeartbeats 8000000 in
set_option maxRecDepth 100000 in
theorem shape_Hull_1.calls (k : Nat) (a0_0 : Int) (a0_1 : Int) (a1_0 : Int) (a1_1 : Int) (r : Int) (w : World) (h : shape_Hull_1.f k a0_0 a0_1 a1_0 a1_1 = some r) :
  Calls Try.prog 51 #[.agg #[.int .i64 a0_0, .int .i64 a0_1], .agg #[.int .i64 a1_0, .int .i64 a1_1]] w fun e w' => e = .returned (.int .i64 r) ∧ Below w.heap.size w w' := by
 have hu29 := Try.underlying29
 have HB := Aside0.mk (Below.refl w.heap.size w)
 have H : ((cmp_Compare_int.f a0_0 a1_0).bind fun t103 => ((cmp_Compare_int.f a0_1 a1_1).bind fun t104 => ((cmp_Or_int.f k (([t103, t104] : List Int))).bind fun t108 => (some t108)))) = some r := h
 clear h
 replace H := Option.bind_eq_some_iff.mp H
 obtain ⟨t103, A30, H⟩ := H
 try dsimp only at H
 have A3 := Aside0.mk A30
 clear A30
 replace H := Option.bind_eq_some_iff.mp H
 obtain ⟨t104, A40, H⟩ := H
 try dsimp only at H
 have A4 := Aside0.mk A40
 clear A40
 obtain ⟨y105, hy105⟩ : ∃ y_ : List Int, y_ = (([t103, t104] : List Int)) := ⟨_, rfl⟩
 replace H : ((cmp_Or_int.f k y105).bind fun t108 => (some t108)) = some r := by first | (rw [hy105]; with_reducible exact H) | (have H2_ := (Option.bind_some _ _).symm.trans H; rw [hy105]; with_reducible exact H2_) | (have H2_ := (Option.bind_some _ _).symm.trans H; with_reducible exact H2_) | with_reducible exact H | (rw [hy105]; exact H) | exact H
 have Ny105 := Aside0.mk hy105
 clear hy105
 replace H := Option.bind_eq_some_iff.mp H
 obtain ⟨t108, A50, H⟩ := H
 try dsimp only at H
 have A5 := Aside0.mk A50
 clear A50
 obtain rfl := Option.some.inj H
 go_enter Try.func51, Try.ntmps51
 try go_wp2_with (first | ((with_reducible refine gate_dst (N := 2) rfl ?_); refine bxe 2 #[.int .i64 a0_0, .int .i64 a0_1] 29 ?_; intro gb101 hg w6 hbox hb; have BK101 := Aside0.mk (hbox); have GW101 := Aside0.mk (gs hg : w.heap.size ≤ gb101); have GE101 := Aside0.mk (gs hg : w.heap.size ≤ gb101); replace HB := Aside0.mk (below_step bh hb); clear hb hbox hg) | ((with_reducible refine gate_dst (N := 3) rfl ?_); refine bxe 3 #[.int .i64 a1_0, .int .i64 a1_1] 29 ?_; intro gb102 hg w7 hbox hb; have BK102 := Aside0.mk (hbox); have GW102 := Aside0.mk (gs hg : w.heap.size ≤ gb102); have GE102 := Aside0.mk (gs hg : w.heap.size ≤ gb102); have NB101_102 := Aside0.mk ((by rw [hg]; exact Nat.ne_of_lt (kl BK101) : gb101 ≠ gb102)); have NB102_101 := Aside0.mk ((by rw [hg]; exact Nat.ne_of_gt (kl BK101) : gb102 ≠ gb101)); replace BK101 := kb BK101 hb; replace HB := Aside0.mk (below_step bh hb); clear hb hbox hg))
 replace BK101 := Aside0.mk (blk_drew BK101.out)
 replace BK102 := Aside0.mk (blk_drew BK102.out)
 replace HB := Aside0.mk (below_drew1 HB.out)
 refine start_ (n := 13) (S := fun w' => w'.cell? ⟨gb101, 0, none⟩ = some (.int .i64 a0_0) ∧ w'.cell? ⟨gb101, 1, none⟩ = some (.int .i64 a0_1) ∧ w'.cell? ⟨gb102, 0, none⟩ = some (.int .i64 a1_0) ∧ w'.cell? ⟨gb102, 1, none⟩ = some (.int .i64 a1_1)) (ds := []) #[N,N,N,N,N,N,N,N,N,N,N,N,N] (by kernel_rfl) rfl rfl ⟨bc BK101 0, bc BK101 1, bc BK102 0, bc BK102 1⟩ (fun hHeld => ?_); refine with_tabW shape_Hull_1.tab1 shape_Hull_1.bits1 (fun HT_ HW_ => ?_)
 generalize w7.drew = w8 at BK101 BK102 HB hHeld ⊢
 refine pu 0 5 HT_ ?_
 refine pu 2 7 HT_ ?_
 refine pu 5 10 HT_ ?_
 refine pu 7 12 HT_ ?_
 refine tk4 1 6 hHeld HT_ HW_ ?_
 refine tk4 3 8 hHeld HT_ HW_ ?_
 refine tk4 6 11 hHeld HT_ HW_ ?_
 refine tk4 8 13 hHeld HT_ HW_ ?_
 refine one_ (i := 4) (N := some 9) #[T,T,T,T,T,T,T,T,T,N,N,N,N] rfl rfl (on1 HT_) (by decide) (fun K hK => ?_)
 refine goes_ Try.func53 (by kernel_rfl) rfl #[.int .i64 a0_0, .int .i64 a1_0] (by rfl) rfl rfl sg ?_
 with_reducible refine (cmp_Compare_int.calls a0_0 a1_0 t103 _ A3.out).mono ?_
 rintro e w' ⟨rfl, ⟨nd, rfl⟩⟩
 refine ⟨_, rfl, ?_⟩
 refine hK.out _ _ ⟨bc BK101 0, bc BK101 1, bc BK102 0, bc BK102 1⟩ (fun hHeld => ?_)
 clear hK K
 refine nm 9 ?_
 refine one_ (i := 9) (N := some 14) #[T,T,T,T,T,T,T,T,T,T,N,N,N] rfl rfl (on1 HT_) (by decide) (fun K hK => ?_)
 refine goes_ Try.func53 (by kernel_rfl) rfl #[.int .i64 a0_1, .int .i64 a1_1] (by rfl) rfl rfl sg ?_
 with_reducible refine (cmp_Compare_int.calls a0_1 a1_1 t104 _ A4.out).mono ?_
 rintro e w' ⟨rfl, ⟨nd, rfl⟩⟩
 refine ⟨_, rfl, ?_⟩
 refine hK.out _ _ ⟨bc BK101 0, bc BK101 1, bc BK102 0, bc BK102 1⟩ (fun hHeld => ?_)
 clear hK K
 refine nm 14 ?_
 refine one_ (i := 10) (N := some 15) #[T,T,T,T,T,T,T,T,T,T,T,N,N] rfl rfl (on1 HT_) (by decide) (fun K hK => ?_)
 refine Kd.R_lit_step (Kd.int .i64) _ 3 ?hg (N := 15) ?hd (xs := ([t103, t104] : List Int)) (inner := [.int .i64 t103, .int .i64 t104]) (ok := fun _ => True) (okp := fun _ => True) ?hr ?hp (fun _ hk => hk) trivial (Below.refl _ _) (Nat.le_refl _) (by simp) ?_; (case hd => rfl); (case hg => rfl); (case hr => first | (go_simp; done) | (go_simp; rfl)); (case hp => exact (Reps.one (show Kd.M (Kd.int .i64) _ _ _ t103 [.int .i64 t103] from rfl) (Reps.one (show Kd.M (Kd.int .i64) _ _ _ t104 [.int .i64 t104] from rfl) (Reps.none _ _))))
 intro v106 w9 ho10 hb hg_ hnew_
 clear hg_ hnew_
 (first | rw [← Ny105.out] at ho10 | (simp only [Int.reduceToNat] at ho10; rw [← Ny105.out] at ho10))
 have HO107 := Aside0.mk (Kd.R_lower ho10 (below_size bh))
 replace BK101 := kb BK101 hb
 replace BK102 := kb BK102 hb
 replace HB := Aside0.mk (below_step bh hb)
 clear hb ho10
 obtain ⟨Ao11, co11, eo11⟩ := Kd.R_slice HO107.out
 (first | subst eo11 | (injection eo11 with f1_ f2_ f3_; have f4_ := f1_.symm; have f5_ := f3_.symm; clear f1_ f2_ f3_; subst f4_; subst f5_))
 refine hK.out _ _ ⟨bc BK101 0, bc BK101 1, bc BK102 0, bc BK102 1⟩ (fun hHeld => ?_)
 clear hK K
 refine nm 15 ?_
 refine one_ (i := 11) (N := some 16) #[T,T,T,T,T,T,T,T,T,T,T,T,N] rfl rfl (on1 HT_) (by decide) (fun K hK => ?_)
 refine goes_ Try.func52 (by kernel_rfl) rfl #[.slice Ao11 y105.length co11] (by rfl) rfl rfl sg ?_
 with_reducible refine (cmp_Or_int.calls k _ _ y105 t108 _ ?side1 ?side2 A5.out).mono ?_
 (case side1 => exact cs (Kd.R_reads' HO107.out).2.2)
 (case side2 => exact (Kd.R_reads' HO107.out).2.1)
 rintro e w' ⟨rfl, ⟨nd, rfl⟩⟩
 refine ⟨_, rfl, ?_⟩
 refine hK.out _ _ ⟨bc BK101 0, bc BK101 1, bc BK102 0, bc BK102 1⟩ (fun hHeld => ?_)
 clear hK K
 refine nm 16 ?_
 refine pu 12 4 HT_ ?_
 refine done_ (done_of HT_.out (by kernel_rfl)) ?_
 try go_wp2
 go_ret
 exact ⟨by exact er, bh⟩
end Go.Proofs.Ytoffmpkgickfhaa.PG
end
section
namespace Go.Proofs.Ytoffmpkgickfhaa.PG
open Go.RowKit Go.Proofs.YtoffmpkgickfhaaW.PrintWords Go.Proofs.YtoffmpkgickfhaaW.PrintLast Go.Proofs.YtoffmpkgickfhaaW.PrintMore
set_option linter.unusedSimpArgs false
set_option linter.unusedVariables false
def cmpI (a b : Int) : Int := if a < b then -1 else if a > b then 1 else 0
theorem compare_is (a b : Int) : cmp_Compare_int.f a b = some (cmpI a b) := by
 unfold cmp_Compare_int.f cmp_isNaN_int.f cmpI
 simp only [bne_self_eq_false, Option.bind_some, Bool.false_eq_true, if_false]
 by_cases h1 : a < b
 ·simp [h1]
 ·by_cases h2 : a > b <;> simp [h1, h2]
def orI (x y : Int) : Int := if x = 0 then y else x
theorem or_is (x y : Int) : cmp_Or_int.f 5 [x, y] = some (orI x y) := by
 unfold cmp_Or_int.f orI
 simp only [cmp_Or_int.l0, List.length_cons, List.length_nil]
 by_cases h1 : x = 0
 ·subst h1
  by_cases h2 : y = 0
  ·subst h2; simp [rd, wrap64]
  ·simp [rd, wrap64, h2]
 ·simp [rd, h1]
def xyCmp (a b : S29) : Int := orI (cmpI a.f0 b.f0) (cmpI a.f1 b.f1)
def xyLt (a b : S29) : Bool := decide (a.f0 < b.f0) || (decide (a.f0 = b.f0) && decide (a.f1 < b.f1))
theorem xy_lt (a b : S29) : ltOf xyCmp a b = xyLt a b := by
 unfold ltOf xyCmp xyLt orI cmpI
 rw [Bool.eq_iff_iff]
 simp only [decide_eq_true_eq, Bool.or_eq_true, Bool.and_eq_true]
 repeat' split
 all_goals omega
theorem xy_swo : Go.Sort.SWO (ltOf xyCmp) where
 irrefl x := by rw [xy_lt]; simp [xyLt]
 trans x y z h1 h2 := by rw [xy_lt] at *; simp [xyLt] at *; omega
 ntrans x y z h1 h2 := by rw [xy_lt] at *; simp [xyLt] at *; omega
theorem xy_total (x y : S29) (h1 : ltOf xyCmp x y = false) (h2 : ltOf xyCmp y x = false) : x = y := by
 rw [xy_lt] at *
 cases x; cases y
 simp [xyLt] at *
 omega
def Gr (w W : World) : Prop := ∃ q os', W = Go.Sort.grow (w.drewN q) os'
theorem Gr.refl (w : World) : Gr w w := ⟨0, #[], by rw [Go.Sort.grow_empty]; rfl⟩
theorem Gr.alloc {w W : World} (h : Gr w W) (o : Obj) : Gr w (W.alloc o) := by
 obtain ⟨q, os, rfl⟩ := h
 exact ⟨q, os ++ #[o], by rw [Go.Sort.alloc_eq_grow, Go.Sort.grow_grow]⟩
theorem Gr.drewN {w W : World} (h : Gr w W) (n : Nat) : Gr w (W.drewN n) := by
 obtain ⟨q, os, rfl⟩ := h
 exact ⟨q + n, os, by simp [Go.Sort.grow, World.drewN, Nat.add_assoc]⟩
theorem Gr.drew {w W : World} (h : Gr w W) : Gr w W.drew := by
 obtain ⟨q, os, rfl⟩ := h
 exact ⟨q + 1, os, by simp [Go.Sort.grow, World.drewN, World.drew, Nat.add_assoc]⟩
attribute [local go_sem] max2_int min2_int max_two min_two max_three min_three max_four min_four
set_option maxHeartbeats 8000000 in
set_option maxRecDepth 100000 in
theorem xy_exact (k : Nat) (a0_0 : Int) (a0_1 : Int) (a1_0 : Int) (a1_1 : Int) (r : Int) (w : World) (h : shape_Hull_1.f k a0_0 a0_1 a1_0 a1_1 = some r) :
  Calls Try.prog 51 #[.agg #[.int .i64 a0_0, .int .i64 a0_1], .agg #[.int .i64 a1_0, .int .i64 a1_1]] w fun e w' => e = .returned (.int .i64 r) ∧ Gr w w' := by
 have hu29 := Try.underlying29
 have H : ((cmp_Compare_int.f a0_0 a1_0).bind fun t103 => ((cmp_Compare_int.f a0_1 a1_1).bind fun t104 => ((cmp_Or_int.f k (([t103, t104] : List Int))).bind fun t108 => (some t108)))) = some r := h
 clear h
 replace H := Option.bind_eq_some_iff.mp H
 obtain ⟨t103, A30, H⟩ := H
 replace H : ((cmp_Compare_int.f a0_1 a1_1).bind fun t104 => ((cmp_Or_int.f k (([t103, t104] : List Int))).bind fun t108 => (some t108))) = some r := H
 have A3 := Aside0.mk A30
 clear A30
 replace H := Option.bind_eq_some_iff.mp H
 obtain ⟨t104, A40, H⟩ := H
 replace H : ((cmp_Or_int.f k (([t103, t104] : List Int))).bind fun t108 => (some t108)) = some r := H
 have A4 := Aside0.mk A40
 clear A40
 obtain ⟨y105, hy105⟩ : ∃ y_ : List Int, y_ = (([t103, t104] : List Int)) := ⟨_, rfl⟩
 replace H : ((cmp_Or_int.f k y105).bind fun t108 => (some t108)) = some r := by first | (rw [hy105]; with_reducible exact H) | (have H2_ := (Option.bind_some _ _).symm.trans H; rw [hy105]; with_reducible exact H2_) | (have H2_ := (Option.bind_some _ _).symm.trans H; with_reducible exact H2_) | with_reducible exact H | (rw [hy105]; exact H) | exact H
 have Ny105 := Aside0.mk hy105
 clear hy105
 replace H := Option.bind_eq_some_iff.mp H
 obtain ⟨t108, A50, H⟩ := H
 replace H : (some t108) = some r := H
 have A5 := Aside0.mk A50
 clear A50
 obtain rfl := Option.some.inj H
 have hbk1 : ((w.alloc (.cells #[.int .i64 a0_0, .int .i64 a0_1] 29 (0, 0))).alloc (.cells #[.int .i64 a1_0, .int .i64 a1_1] 29 (0, 0))).heap[w.heap.size]? = some (.cells #[.int .i64 a0_0, .int .i64 a0_1] 29 (0, 0)) := blk_alloc (blk_new w _) _
 have hbk2 : ((w.alloc (.cells #[.int .i64 a0_0, .int .i64 a0_1] 29 (0, 0))).alloc (.cells #[.int .i64 a1_0, .int .i64 a1_1] 29 (0, 0))).heap[w.heap.size + 1]? = some (.cells #[.int .i64 a1_0, .int .i64 a1_1] 29 (0, 0)) := by
  rw [show w.heap.size + 1 = (w.alloc (.cells #[.int .i64 a0_0, .int .i64 a0_1] 29 (0, 0))).heap.size by simp]; exact blk_new _ _
 have BK101 := Aside0.mk hbk1
 have BK102 := Aside0.mk hbk2
 clear hbk1 hbk2
 have HB := Aside0.mk (((Gr.refl w).alloc (.cells #[.int .i64 a0_0, .int .i64 a0_1] 29 (0, 0))).alloc (.cells #[.int .i64 a1_0, .int .i64 a1_1] 29 (0, 0)))
 go_enter Try.func51, Try.ntmps51
 go_wp2
 generalize (w.alloc (.cells #[.int .i64 a0_0, .int .i64 a0_1] 29 (0, 0))).alloc (.cells #[.int .i64 a1_0, .int .i64 a1_1] 29 (0, 0)) = w7 at BK101 BK102 HB ⊢
 have n0_ := Aside0.mk (blk_drew BK101.out)
 have n1_ := Aside0.mk (blk_drew BK102.out)
 have n2_ := Aside0.mk HB.out.drew
 clear BK101
 clear BK102
 clear HB
 have BK101 := n0_
 have BK102 := n1_
 have HB := n2_
 clear n0_ n1_ n2_
 refine start_ (n := 13) (S := fun w' => w'.cell? ⟨w.heap.size, 0, none⟩ = some (.int .i64 a0_0) ∧ w'.cell? ⟨w.heap.size, 1, none⟩ = some (.int .i64 a0_1) ∧ w'.cell? ⟨w.heap.size + 1, 0, none⟩ = some (.int .i64 a1_0) ∧ w'.cell? ⟨w.heap.size + 1, 1, none⟩ = some (.int .i64 a1_1)) (ds := []) #[false, false, false, false, false, false, false, false, false, false, false, false, false] (by kernel_rfl) rfl rfl ⟨(blk_cell BK101.out 0).trans rfl, (blk_cell BK101.out 1).trans rfl, (blk_cell BK102.out 0).trans rfl, (blk_cell BK102.out 1).trans rfl⟩ (fun hHeld => ?_); refine with_tabW shape_Hull_1.tab1 shape_Hull_1.bits1 (fun HT_ HW_ => ?_)
 generalize w7.drew = w8 at BK101 BK102 HB hHeld ⊢
 refine pure_ (i := 0) (N := some 5) (v := ?_) (a' := ?_) #[true, false, false, false, false, false, false, false, false, false, false, false, false] rfl rfl (any_of HT_.out (by kernel_rfl)) (fun _ _ _ h => h) (Or.inl ⟨by rfl, ?_⟩) ?_ ?_
 rotate_left
 ·intro w'
  go_simp
  with_reducible rfl
 rotate_left
 ·simp only [Act.put, List.setIfInBounds_toArray, List.set_cons_zero, List.set_cons_succ, i64_w, i32_w]
  rfl
 refine pure_ (i := 2) (N := some 7) (v := ?_) (a' := ?_) #[true, false, true, false, false, false, false, false, false, false, false, false, false] rfl rfl (any_of HT_.out (by kernel_rfl)) (fun _ _ _ h => h) (Or.inl ⟨by rfl, ?_⟩) ?_ ?_
 rotate_left
 ·intro w'
  go_simp
  with_reducible rfl
 rotate_left
 ·simp only [Act.put, List.setIfInBounds_toArray, List.set_cons_zero, List.set_cons_succ, i64_w, i32_w]
  rfl
 refine pure_ (i := 5) (N := some 10) (v := ?_) (a' := ?_) #[true, false, true, false, false, true, false, false, false, false, false, false, false] rfl rfl (any_of HT_.out (by kernel_rfl)) (fun _ _ _ h => h) (Or.inl ⟨by rfl, ?_⟩) ?_ ?_
 rotate_left
 ·intro w'
  go_simp
  with_reducible rfl
 rotate_left
 ·simp only [Act.put, List.setIfInBounds_toArray, List.set_cons_zero, List.set_cons_succ, i64_w, i32_w]
  rfl
 refine pure_ (i := 7) (N := some 12) (v := ?_) (a' := ?_) #[true, false, true, false, false, true, false, true, false, false, false, false, false] rfl rfl (any_of HT_.out (by kernel_rfl)) (fun _ _ _ h => h) (Or.inl ⟨by rfl, ?_⟩) ?_ ?_
 rotate_left
 ·intro w'
  go_simp
  with_reducible rfl
 rotate_left
 ·simp only [Act.put, List.setIfInBounds_toArray, List.set_cons_zero, List.set_cons_succ, i64_w, i32_w]
  rfl
 refine take_ (i := 1) (N := some 6) (v := ?_) (a' := ?_) #[true, true, true, false, false, true, false, true, false, false, false, false, false] rfl rfl (take_ofW HT_.out HW_.out (by kernel_rfl)) (fun _ _ _ h => h) (Or.inl ⟨by rfl, ?_⟩) hHeld ?_ ?_
 rotate_left
 ·rintro w' ⟨s0, s1, s2, s3⟩
  go_simp
  with_reducible rfl
 rotate_left
 ·simp only [Act.put, List.setIfInBounds_toArray, List.set_cons_zero, List.set_cons_succ, i64_w, i32_w]
  rfl
 refine take_ (i := 3) (N := some 8) (v := ?_) (a' := ?_) #[true, true, true, true, false, true, false, true, false, false, false, false, false] rfl rfl (take_ofW HT_.out HW_.out (by kernel_rfl)) (fun _ _ _ h => h) (Or.inl ⟨by rfl, ?_⟩) hHeld ?_ ?_
 rotate_left
 ·rintro w' ⟨s0, s1, s2, s3⟩
  go_simp
  with_reducible rfl
 rotate_left
 ·simp only [Act.put, List.setIfInBounds_toArray, List.set_cons_zero, List.set_cons_succ, i64_w, i32_w]
  rfl
 refine take_ (i := 6) (N := some 11) (v := ?_) (a' := ?_) #[true, true, true, true, false, true, true, true, false, false, false, false, false] rfl rfl (take_ofW HT_.out HW_.out (by kernel_rfl)) (fun _ _ _ h => h) (Or.inl ⟨by rfl, ?_⟩) hHeld ?_ ?_
 rotate_left
 ·rintro w' ⟨s0, s1, s2, s3⟩
  go_simp
  with_reducible rfl
 rotate_left
 ·simp only [Act.put, List.setIfInBounds_toArray, List.set_cons_zero, List.set_cons_succ, i64_w, i32_w]
  rfl
 refine take_ (i := 8) (N := some 13) (v := ?_) (a' := ?_) #[true, true, true, true, false, true, true, true, true, false, false, false, false] rfl rfl (take_ofW HT_.out HW_.out (by kernel_rfl)) (fun _ _ _ h => h) (Or.inl ⟨by rfl, ?_⟩) hHeld ?_ ?_
 rotate_left
 ·rintro w' ⟨s0, s1, s2, s3⟩
  go_simp
  with_reducible rfl
 rotate_left
 ·simp only [Act.put, List.setIfInBounds_toArray, List.set_cons_zero, List.set_cons_succ, i64_w, i32_w]
  rfl
 refine one_ (i := 4) (N := some 9) #[true, true, true, true, true, true, true, true, true, false, false, false, false] rfl rfl (one_of HT_.out (by kernel_rfl)) (by decide) (fun K hK => ?_)
 refine goes_ Try.func53 (by kernel_rfl) rfl #[.int .i64 a0_0, .int .i64 a1_0] (by rfl) rfl rfl (by (try simp only [List.map_toArray, List.map_cons, List.map_nil]); first | done | rfl | (simp only [List.length_drop, List.length_take]; rfl)) ?_
 with_reducible refine (cmp_Compare_int.calls a0_0 a1_0 t103 _ A3.out).mono ?_
 rintro e w' ⟨rfl, ⟨nd1, rfl⟩⟩
 refine ⟨_, rfl, ?_⟩
 refine hK.out _ _ ⟨(blk_cell BK101.out 0).trans rfl, (blk_cell BK101.out 1).trans rfl, (blk_cell BK102.out 0).trans rfl, (blk_cell BK102.out 1).trans rfl⟩ (fun hHeld => ?_)
 clear hK K
 refine norm_ (a' := ?_) ?_ ?_
 rotate_left
 ·show Act.put _ (some 9) _ = _
  simp only [Act.put, List.setIfInBounds_toArray, List.set_cons_zero, List.set_cons_succ, i64_w, i32_w]
  rfl
 refine one_ (i := 9) (N := some 14) #[true, true, true, true, true, true, true, true, true, true, false, false, false] rfl rfl (one_of HT_.out (by kernel_rfl)) (by decide) (fun K hK => ?_)
 refine goes_ Try.func53 (by kernel_rfl) rfl #[.int .i64 a0_1, .int .i64 a1_1] (by rfl) rfl rfl (by (try simp only [List.map_toArray, List.map_cons, List.map_nil]); first | done | rfl | (simp only [List.length_drop, List.length_take]; rfl)) ?_
 with_reducible refine (cmp_Compare_int.calls a0_1 a1_1 t104 _ A4.out).mono ?_
 rintro e w' ⟨rfl, ⟨nd2, rfl⟩⟩
 refine ⟨_, rfl, ?_⟩
 refine hK.out _ _ ⟨(blk_cell BK101.out 0).trans rfl, (blk_cell BK101.out 1).trans rfl, (blk_cell BK102.out 0).trans rfl, (blk_cell BK102.out 1).trans rfl⟩ (fun hHeld => ?_)
 clear hK K
 refine norm_ (a' := ?_) ?_ ?_
 rotate_left
 ·show Act.put _ (some 14) _ = _
  simp only [Act.put, List.setIfInBounds_toArray, List.set_cons_zero, List.set_cons_succ, i64_w, i32_w]
  rfl
 refine one_ (i := 10) (N := some 15) #[true, true, true, true, true, true, true, true, true, true, true, false, false] rfl rfl (one_of HT_.out (by kernel_rfl)) (by decide) (fun K hK => ?_)
 refine value_ (v := .slice (some ⟨w8.heap.size, 0, none⟩) 2 2) (w1 := World.alloc (w8.drewN (nd1 + nd2)) (.cells #[.int .i64 t103, .int .i64 t104] 3 (0, 0))) rfl rfl (by go_simp) ?_
 have n0_ := Aside0.mk (blk_alloc (blk_drewN BK101.out (nd1 + nd2)) (.cells #[.int .i64 t103, .int .i64 t104] 3 (0, 0)))
 have n1_ := Aside0.mk (blk_alloc (blk_drewN BK102.out (nd1 + nd2)) (.cells #[.int .i64 t103, .int .i64 t104] 3 (0, 0)))
 have n2_ := Aside0.mk ((HB.out.drewN (nd1 + nd2)).alloc (.cells #[.int .i64 t103, .int .i64 t104] 3 (0, 0)))
 have HY : y105.length = 2 := by rw [Ny105.out]; rfl
 have n3_ := Aside0.mk (Kd.R_reads' (Kd.R_of_own (h1 := fun _ => rfl) (ok := fun _ => True) (own_lit (w8.drewN (nd1 + nd2)) w8.heap.size 3 .i64 [t103, t104] (Nat.le_refl _) (by simp)) (fun _ _ => trivial))).2.2
 clear BK101 BK102 HB
 have BK101 := n0_
 have BK102 := n1_
 have HB := n2_
 clear n0_ n1_ n2_
 have n4_ : Aside0 (Kd.C (Kd.int .i64) (World.alloc (w8.drewN (nd1 + nd2)) (.cells #[.int .i64 t103, .int .i64 t104] 3 (0, 0))) (some ⟨w8.heap.size, 0, none⟩) y105.length y105) := by rw [Ny105.out]; exact n3_
 clear n3_
 have HYY := Aside0.mk HY
 clear HY
 generalize World.alloc (w8.drewN (nd1 + nd2)) (.cells #[.int .i64 t103, .int .i64 t104] 3 (0, 0)) = w9 at BK101 BK102 HB n4_ ⊢
 refine hK.out _ _ ⟨(blk_cell BK101.out 0).trans rfl, (blk_cell BK101.out 1).trans rfl, (blk_cell BK102.out 0).trans rfl, (blk_cell BK102.out 1).trans rfl⟩ (fun hHeld => ?_)
 clear hK K
 refine norm_ (a' := ?_) ?_ ?_
 rotate_left
 ·show Act.put _ (some 15) _ = _
  simp only [Act.put, List.setIfInBounds_toArray, List.set_cons_zero, List.set_cons_succ, i64_w, i32_w]
  rfl
 refine one_ (i := 11) (N := some 16) #[true, true, true, true, true, true, true, true, true, true, true, true, false] rfl rfl (one_of HT_.out (by kernel_rfl)) (by decide) (fun K hK => ?_)
 refine goes_ Try.func52 (by kernel_rfl) rfl #[.slice (some ⟨w8.heap.size, 0, none⟩) 2 2] (by rfl) rfl rfl (by (try simp only [List.map_toArray, List.map_cons, List.map_nil]); first | done | rfl | (simp only [List.length_drop, List.length_take]; rfl)) ?_
 refine calls_of_args (args' := #[.slice (some ⟨w8.heap.size, 0, none⟩) y105.length 2]) (by rw [HYY.out]) ?_
 with_reducible refine (cmp_Or_int.calls k _ _ y105 t108 _ ?side1 ?side2 A5.out).mono ?_
 (case side1 => exact n4_.out)
 (case side2 => rw [HYY.out]; exact Nat.le_refl _)
 rintro e w' ⟨rfl, ⟨nd, rfl⟩⟩
 refine ⟨_, rfl, ?_⟩
 refine hK.out _ _ ⟨(blk_cell BK101.out 0).trans rfl, (blk_cell BK101.out 1).trans rfl, (blk_cell BK102.out 0).trans rfl, (blk_cell BK102.out 1).trans rfl⟩ (fun hHeld => ?_)
 clear hK K
 refine norm_ (a' := ?_) ?_ ?_
 rotate_left
 ·show Act.put _ (some 16) _ = _
  simp only [Act.put, List.setIfInBounds_toArray, List.set_cons_zero, List.set_cons_succ, i64_w, i32_w]
  rfl
 refine pure_ (i := 12) (N := some 4) (v := ?_) (a' := ?_) #[true, true, true, true, true, true, true, true, true, true, true, true, true] rfl rfl (any_of HT_.out (by kernel_rfl)) (fun _ _ _ h => h) (Or.inl ⟨by rfl, ?_⟩) ?_ ?_
 rotate_left
 ·intro w'
  go_simp
  with_reducible rfl
 rotate_left
 ·simp only [Act.put, List.setIfInBounds_toArray, List.set_cons_zero, List.set_cons_succ, i64_w, i32_w]
  rfl
 refine done_ (done_of HT_.out (by kernel_rfl)) ?_
 try go_wp2
 go_ret
 exact ⟨by first | rfl | (simp; done), HB.out.drewN _⟩
def slices_SortFunc_xy.f (l0 : List (S29)) : Option (List S29) := if l0.length < 4611686018427387904 then some (l0.mergeSort fun x y => !xyLt y x) else none
theorem hull1_is (a b : S29) : shape_Hull_1.f 5 a.f0 a.f1 b.f0 b.f1 = some (xyCmp a b) := by
 unfold shape_Hull_1.f xyCmp
 rw [compare_is, Option.bind_some, compare_is, Option.bind_some, or_is]; rfl
theorem xy_lays (blk off size : Nat) (w : World) : CmpLays Try.prog 51 #[] enc29 2 xyCmp blk off size w :=
 fun _ _ _ _ x y => (xy_exact 5 x.f0 x.f1 y.f0 y.f1 _ _ (hull1_is x y)).mono fun _ _ h => h
theorem slices_SortFunc_xy.calls (P0_ : Nat → Prop) (u9000_ : Value) (l0 : List (S29)) (r : List (S29)) (w0 w : World) (hB : Below w0.heap.size w0 w) (ho0 : Kd.R k29 29 w w0.heap.size P0_ u9000_ l0) (h : slices_SortFunc_xy.f l0 = some r) :
  Calls Try.prog 50 #[u9000_, .func (.func 51) #[] #[]] w fun e w' => e = .returned (.tuple #[]) ∧ Kd.R k29 29 w' w0.heap.size (fun k_ => (P0_ k_ ∨ w.heap.size ≤ k_)) u9000_ r ∧ Below w0.heap.size w0 w' ∧ Kept w w' (fun k_ => P0_ k_) := by
 unfold slices_SortFunc_xy.f at h
 split at h
 ·rename_i hlt
  obtain rfl := Option.some.inj h
  clear h
  by_cases hl : l0.length = 0
  ·obtain ⟨A, c, rfl⟩ := Kd.R_slice ho0
   have e0 : l0 = [] := List.eq_nil_of_length_eq_zero hl
   subst e0
   have hc := AnyF.slices_SortFunc_none Try.sortPt A c (.func (.func 51) #[] #[]) w
   change Calls Try.prog 50 _ _ _ at hc
   refine hc.mono fun e w' hh => ?_
   obtain ⟨he, rfl⟩ := hh
   exact ⟨he, Kd.R_mono (by simpa using ho0) (fun k hk => .inl hk), hB, ⟨Nat.le_refl _, fun _ _ _ => rfl⟩⟩
  ·obtain ⟨g, cap, cur, rfl, hb, hh, hnc, hcm, hsz, hPg, hp⟩ := row_open ho0 (by omega)
   have eg : ∀ args w, (callFunc 51 args).run Try.prog w = .ok (.enter 51 args) w := enters_of Try.func51 (by kernel_rfl) rfl
   have hc := AnyQ.slices_SortFunc_total Try.sortPt 2 Try.isAgg29 Try.sizeOf29 enc29 (fun _ => rfl) enc29_one xyCmp xy_swo 51 #[] g 0 cap l0.toArray w eg (xy_lays _ _ _ _) (holds_of hh hp) (blk_lt hh) (by simpa using hlt) xy_total
   change Calls Try.prog 50 _ _ _ at hc
   simp only [List.size_toArray] at hc
   refine hc.mono fun e w' hx => ?_
   obtain ⟨he, n, os, rfl⟩ := hx
   have e1 : (fun x y => !ltOf xyCmp y x) = fun x y => !xyLt y x := by funext x y; rw [xy_lt]
   rw [e1]
   have hlen : (l0.mergeSort fun x y => !xyLt y x).length = l0.length := List.length_mergeSort l0
   obtain ⟨cur', p1, p2, p3, p4⟩ := put_at n (l0.mergeSort fun x y => !xyLt y x).toArray os hh (by simp [hlen]; omega)
   have := row_shut (P := fun k_ => (P0_ k_ ∨ w.heap.size ≤ k_)) hb p1 (l := l0.mergeSort fun x y => !xyLt y x) (cap := cap) (by rw [hlen]; exact hnc) hcm (by rw [p2]; exact hsz) (.inl hPg) p3
   rw [hlen] at this
   exact ⟨he, this, grown_below hB p4 hb, grown_kept p4 hPg⟩
 ·cases h
end Go.Proofs.Ytoffmpkgickfhaa.PG
end
section
namespace Go.Proofs.Ytoffmpkgickfhaa.PG
open Go.RowKit Go.Proofs.YtoffmpkgickfhaaW.PrintWords Go.Proofs.YtoffmpkgickfhaaW.PrintLast Go.Proofs.YtoffmpkgickfhaaW.PrintMore
attribute [local go_sem] max2_int min2_int max_two min_two max_three min_three max_four min_four
set_option linter.unusedVariables false
set_option linter.unusedSimpArgs false
/-! ### shape_Hull: function 16 -/
def shape_Hull.j0 : Nat → List (S29) → Bool → Option ((List (S29)) × Int)
 | 0, _, _ => none
 | k + 1, x0, x20 => if x20 = true then (some (([] : List (S29)), 1)) else ((slices_Clone.f x0).bind fun t102 => ((slices_SortFunc_xy.f t102).bind fun t105 => ((slices_Compact.f t105).bind fun t106 => ((shape_chain.f k t106).bind fun t109 => ((slices_Reverse.f t106).bind fun t112 => ((shape_chain.f k t112).bind fun t113 => (if 0 ≤ (wrap64 ((t109.length : Int) - 1)) then (if (wrap64 ((t109.length : Int) - 1)) ≤ (t109.length : Int) then (if 0 ≤ (wrap64 ((t113.length : Int) - 1)) then (if (wrap64 ((t113.length : Int) - 1)) ≤ (t113.length : Int) then ((api_Point_57.f k (([(t109.take ((wrap64 ((t109.length : Int) - 1)) : Int).toNat), (t113.take ((wrap64 ((t113.length : Int) - 1)) : Int).toNat)] : List (List (S29))))).bind fun t129 => (if (t129.length : Int) < 3 then (some (([] : List (S29)), 6)) else ((shape_begun.f k t129).bind fun t132 => (some (t132, 0))))) else (none)) else (none)) else (none)) else (none))))))))
def shape_Hull.f (k : Nat) (l0 : List (S29)) : Option ((List (S29)) × Int) := if (l0.length : Int) < 1 then (shape_Hull.j0 k l0 true) else (if (l0.length : Int) > 32 then (shape_Hull.j0 k l0 true) else ((shape_within.f l0 10000).bind fun t101 => (shape_Hull.j0 k l0 (!t101))))
def shape_Hull.T9 : Bool × List (List Nat × List Nat) := (true, [([], []), ([], []), ([1], [1]), ([2], [2]), ([0, 3], [0, 3]), ([], []), ([], []), ([6], [6]), ([7], [7]), ([5, 8], [5, 8]), ([4, 9], [4, 9]), ([10], [10]), ([11, 11, 0, 1, 2, 3, 4, 5, 6, 7, 8, 9, 10, 11], [11])])
def shape_Hull.B9 : List Nat := [0, 0, 2, 6, 15, 0, 0, 64, 192, 480, 1023, 2047, 4095]
theorem shape_Hull.tab9 : rtab .any (opsOf Try.f16 9) = shape_Hull.T9 := by kernel_rfl
theorem shape_Hull.bits9 : waitsOk shape_Hull.T9.2 shape_Hull.B9 = true := by kernel_rfl
set_option maxHeartbeats 8000000 in
set_option maxRecDepth 100000 in
theorem shape_Hull.calls (k : Nat) (A0 : Option Addr) (c0 : Nat) (l0 : List (S29)) (r1 : List (S29)) (r2 : Int) (w : World) (hr0 : Kd.C k29 w A0 l0.length l0) (hc0 : l0.length ≤ c0) (h : shape_Hull.f k l0 = some (r1, r2)) :
  Calls Try.prog 16 #[.slice A0 l0.length c0] w fun e w' => ∃ v0_ : Value, e = .returned (.tuple #[v0_, .int .i64 r2]) ∧ Kd.R k29 29 w' w.heap.size (fun _ => True) v0_ r1 ∧ Below w.heap.size w w' := by
 have HR0 := Aside0.mk hr0
 have HC0 := Aside0.mk hc0
 clear hr0 hc0
 have HB := Aside0.mk (Below.refl w.heap.size w)
 have H : (if (l0.length : Int) < 1 then (shape_Hull.j0 k l0 true) else (if (l0.length : Int) > 32 then (shape_Hull.j0 k l0 true) else ((shape_within.f l0 10000).bind fun t101 => (shape_Hull.j0 k l0 (!t101))))) = some (r1, r2) := h
 clear h
 have HC2 := Aside0.mk H
 clear H
 go_enter Try.func16, Try.ntmps16
 go_upto_region 1 with (fail)
 go_cut [20] (fun v20 wc => ∃ (kq : Nat) (x20_1 : Bool), v20 = .bool x20_1 ∧ Aside0 (shape_Hull.j0 kq l0 x20_1 = some (r1, r2)) ∧ Aside0 (kq ≤ k) ∧ Aside0 (Below w.heap.size w wc))
 case first =>
  have H := HC2.out
  clear HC2
  by_cases c3 : (l0.length : Int) < 1
  ·rw [if_pos c3] at H
   have c3b0 := decide_eq_true c3
   have c3b1 : decide (l0.length < 1) = true := decide_eq_true (by omega)
   clear c3
   (first | rw [c3b0] | (simp only [i64_w, i32_w]; rw [c3b0]) | skip)
   have H' := Aside0.mk H
   clear H
   go_wp2
   go_meet
   case rel => exact ⟨_, (true), sd, H', ⟨om⟩, ⟨bh⟩⟩
  ·rw [if_neg c3] at H
   have c3b0 := decide_eq_false c3
   have c3b1 : decide (l0.length < 1) = false := decide_eq_false (by omega)
   clear c3
   (first | rw [c3b0] | (simp only [i64_w, i32_w]; rw [c3b0]) | skip)
   by_cases c4 : (l0.length : Int) > 32
   ·rw [if_pos c4] at H
    have c4b0 := decide_eq_true c4
    have c4b1 : decide (32 < l0.length) = true := decide_eq_true (by omega)
    clear c4
    have H' := Aside0.mk H
    clear H
    go_wp2
    go_meet
    case rel => exact ⟨_, (true), sd, H', ⟨om⟩, ⟨bh⟩⟩
   ·rw [if_neg c4] at H
    have c4b0 := decide_eq_false c4
    have c4b1 : decide (32 < l0.length) = false := decide_eq_false (by omega)
    clear c4
    replace H := Option.bind_eq_some_iff.mp H
    obtain ⟨t101, A50, H⟩ := H
    replace H : (shape_Hull.j0 k l0 (!t101)) = some (r1, r2) := H
    have A5 := Aside0.mk A50
    clear A50
    have H' := Aside0.mk H
    clear H
    go_wp2_with (first | (go_at_call 48; (with_reducible refine (shape_within.calls _ _ l0 10000 t101 _ ?side1 ?side2 A5.out).mono ?_); (case side1 => exact cs (Kd.C_below HR0.out HB.out)); (case side2 => exact HC0.out); rintro e w6 ⟨rfl, hb⟩; replace HB := Aside0.mk (below_step bh hb); (try clear hb); (try clear hb2); (try clear hk); (try clear hi)))
    go_meet
    case rel => exact ⟨_, (!t101), sd, H', ⟨om⟩, ⟨bh⟩⟩
 case rest =>
  clear HC2
  (try clear c1); (try clear p2); (try clear c3); (try clear c3b0); (try clear c3b1); (try clear c4); (try clear c4b0); (try clear c4b1)
  obtain ⟨kq, x20_1, rfl, HA, HJ1, HB⟩ := hcut
  cases kq with
  | zero => exact absurd HA.out (by simp [shape_Hull.j0])
  | succ kj1 =>
   have H := HA.out
   clear HA
   simp only [shape_Hull.j0] at H
   by_cases c7 : x20_1 = true
   ·subst c7
    rw [if_pos rfl] at H
    simp only [Option.some.injEq, Prod.mk.injEq] at H
    obtain ⟨rfl, rfl⟩ := H
    go_wp2
    go_ret2
    exact ⟨_, by exact er, by first | exact Kd.R_nil _ _ _ _ _ | exact Kd.N_nil _ _ _ _ _ | exact Kd.V_nil _ _ _ _ _ | exact Kd.Q_nil _ _ _ _ _ | exact Kd.S_nil _ _ _ _ _, bh⟩
   ·replace c7 := Bool.eq_false_iff.mpr c7
    subst c7
    rw [if_neg (show ¬ (false = true) by decide)] at H
    replace H := Option.bind_eq_some_iff.mp H
    obtain ⟨t102, A80, H⟩ := H
    replace H : ((slices_SortFunc_xy.f t102).bind fun t105 => ((slices_Compact.f t105).bind fun t106 => ((shape_chain.f kj1 t106).bind fun t109 => ((slices_Reverse.f t106).bind fun t112 => ((shape_chain.f kj1 t112).bind fun t113 => (if 0 ≤ (wrap64 ((t109.length : Int) - 1)) then (if (wrap64 ((t109.length : Int) - 1)) ≤ (t109.length : Int) then (if 0 ≤ (wrap64 ((t113.length : Int) - 1)) then (if (wrap64 ((t113.length : Int) - 1)) ≤ (t113.length : Int) then ((api_Point_57.f kj1 (([(t109.take ((wrap64 ((t109.length : Int) - 1)) : Int).toNat), (t113.take ((wrap64 ((t113.length : Int) - 1)) : Int).toNat)] : List (List (S29))))).bind fun t129 => (if (t129.length : Int) < 3 then (some (([] : List (S29)), 6)) else ((shape_begun.f kj1 t129).bind fun t132 => (some (t132, 0))))) else (none)) else (none)) else (none)) else (none))))))) = some (r1, r2) := H
    have A8 := Aside0.mk A80
    clear A80
    replace H := Option.bind_eq_some_iff.mp H
    obtain ⟨t105, A90, H⟩ := H
    replace H : ((slices_Compact.f t105).bind fun t106 => ((shape_chain.f kj1 t106).bind fun t109 => ((slices_Reverse.f t106).bind fun t112 => ((shape_chain.f kj1 t112).bind fun t113 => (if 0 ≤ (wrap64 ((t109.length : Int) - 1)) then (if (wrap64 ((t109.length : Int) - 1)) ≤ (t109.length : Int) then (if 0 ≤ (wrap64 ((t113.length : Int) - 1)) then (if (wrap64 ((t113.length : Int) - 1)) ≤ (t113.length : Int) then ((api_Point_57.f kj1 (([(t109.take ((wrap64 ((t109.length : Int) - 1)) : Int).toNat), (t113.take ((wrap64 ((t113.length : Int) - 1)) : Int).toNat)] : List (List (S29))))).bind fun t129 => (if (t129.length : Int) < 3 then (some (([] : List (S29)), 6)) else ((shape_begun.f kj1 t129).bind fun t132 => (some (t132, 0))))) else (none)) else (none)) else (none)) else (none)))))) = some (r1, r2) := H
    have A9 := Aside0.mk A90
    clear A90
    replace H := Option.bind_eq_some_iff.mp H
    obtain ⟨t106, A100, H⟩ := H
    replace H : ((shape_chain.f kj1 t106).bind fun t109 => ((slices_Reverse.f t106).bind fun t112 => ((shape_chain.f kj1 t112).bind fun t113 => (if 0 ≤ (wrap64 ((t109.length : Int) - 1)) then (if (wrap64 ((t109.length : Int) - 1)) ≤ (t109.length : Int) then (if 0 ≤ (wrap64 ((t113.length : Int) - 1)) then (if (wrap64 ((t113.length : Int) - 1)) ≤ (t113.length : Int) then ((api_Point_57.f kj1 (([(t109.take ((wrap64 ((t109.length : Int) - 1)) : Int).toNat), (t113.take ((wrap64 ((t113.length : Int) - 1)) : Int).toNat)] : List (List (S29))))).bind fun t129 => (if (t129.length : Int) < 3 then (some (([] : List (S29)), 6)) else ((shape_begun.f kj1 t129).bind fun t132 => (some (t132, 0))))) else (none)) else (none)) else (none)) else (none))))) = some (r1, r2) := H
    have A10 := Aside0.mk A100
    clear A100
    replace H := Option.bind_eq_some_iff.mp H
    obtain ⟨t109, A110, H⟩ := H
    replace H : ((slices_Reverse.f t106).bind fun t112 => ((shape_chain.f kj1 t112).bind fun t113 => (if 0 ≤ (wrap64 ((t109.length : Int) - 1)) then (if (wrap64 ((t109.length : Int) - 1)) ≤ (t109.length : Int) then (if 0 ≤ (wrap64 ((t113.length : Int) - 1)) then (if (wrap64 ((t113.length : Int) - 1)) ≤ (t113.length : Int) then ((api_Point_57.f kj1 (([(t109.take ((wrap64 ((t109.length : Int) - 1)) : Int).toNat), (t113.take ((wrap64 ((t113.length : Int) - 1)) : Int).toNat)] : List (List (S29))))).bind fun t129 => (if (t129.length : Int) < 3 then (some (([] : List (S29)), 6)) else ((shape_begun.f kj1 t129).bind fun t132 => (some (t132, 0))))) else (none)) else (none)) else (none)) else (none)))) = some (r1, r2) := H
    have A11 := Aside0.mk A110
    clear A110
    replace H := Option.bind_eq_some_iff.mp H
    obtain ⟨t112, A120, H⟩ := H
    replace H : ((shape_chain.f kj1 t112).bind fun t113 => (if 0 ≤ (wrap64 ((t109.length : Int) - 1)) then (if (wrap64 ((t109.length : Int) - 1)) ≤ (t109.length : Int) then (if 0 ≤ (wrap64 ((t113.length : Int) - 1)) then (if (wrap64 ((t113.length : Int) - 1)) ≤ (t113.length : Int) then ((api_Point_57.f kj1 (([(t109.take ((wrap64 ((t109.length : Int) - 1)) : Int).toNat), (t113.take ((wrap64 ((t113.length : Int) - 1)) : Int).toNat)] : List (List (S29))))).bind fun t129 => (if (t129.length : Int) < 3 then (some (([] : List (S29)), 6)) else ((shape_begun.f kj1 t129).bind fun t132 => (some (t132, 0))))) else (none)) else (none)) else (none)) else (none))) = some (r1, r2) := H
    have A12 := Aside0.mk A120
    clear A120
    replace H := Option.bind_eq_some_iff.mp H
    obtain ⟨t113, A130, H⟩ := H
    replace H : (if 0 ≤ (wrap64 ((t109.length : Int) - 1)) then (if (wrap64 ((t109.length : Int) - 1)) ≤ (t109.length : Int) then (if 0 ≤ (wrap64 ((t113.length : Int) - 1)) then (if (wrap64 ((t113.length : Int) - 1)) ≤ (t113.length : Int) then ((api_Point_57.f kj1 (([(t109.take ((wrap64 ((t109.length : Int) - 1)) : Int).toNat), (t113.take ((wrap64 ((t113.length : Int) - 1)) : Int).toNat)] : List (List (S29))))).bind fun t129 => (if (t129.length : Int) < 3 then (some (([] : List (S29)), 6)) else ((shape_begun.f kj1 t129).bind fun t132 => (some (t132, 0))))) else (none)) else (none)) else (none)) else (none)) = some (r1, r2) := H
    have A13 := Aside0.mk A130
    clear A130
    obtain ⟨ji14, hji14⟩ : ∃ j_ : Int, (wrap64 ((t109.length : Int) - 1)) = j_ := ⟨_, rfl⟩
    replace H : (if 0 ≤ (ji14) then (if (ji14) ≤ (t109.length : Int) then (if 0 ≤ (wrap64 ((t113.length : Int) - 1)) then (if (wrap64 ((t113.length : Int) - 1)) ≤ (t113.length : Int) then ((api_Point_57.f kj1 (([(t109.take ((ji14) : Int).toNat), (t113.take ((wrap64 ((t113.length : Int) - 1)) : Int).toNat)] : List (List (S29))))).bind fun t129 => (if (t129.length : Int) < 3 then (some (([] : List (S29)), 6)) else ((shape_begun.f kj1 t129).bind fun t132 => (some (t132, 0))))) else (none)) else (none)) else (none)) else (none)) = some (r1, r2) := by first | (rw [hji14] at H; exact H) | (simp only [hji14] at H ⊢; exact H)
    (try rw [hji14] at A8)
    (try rw [hji14] at A9)
    (try rw [hji14] at A10)
    (try rw [hji14] at A11)
    (try rw [hji14] at A12)
    (try rw [hji14] at A13)
    have hji14w : (IntKind.i64.wrap ((t109.length : Int) - 1)) = ji14 := (i64_w _).trans hji14
    replace H := oi H
    obtain ⟨c15, H⟩ := H
    have c15b0 := eq_true c15
    have c15b1 := decide_eq_true c15
    clear c15
    replace H := oi H
    obtain ⟨c16, H⟩ := H
    have c16b0 := eq_true c16
    have c16b1 := decide_eq_true c16
    clear c16
    obtain ⟨y116, hy116⟩ : ∃ y_ : List (S29), y_ = (t109.take ((ji14) : Int).toNat) := ⟨_, rfl⟩
    replace H : (if 0 ≤ (wrap64 ((t113.length : Int) - 1)) then (if (wrap64 ((t113.length : Int) - 1)) ≤ (t113.length : Int) then ((api_Point_57.f kj1 (([y116, (t113.take ((wrap64 ((t113.length : Int) - 1)) : Int).toNat)] : List (List (S29))))).bind fun t129 => (if (t129.length : Int) < 3 then (some (([] : List (S29)), 6)) else ((shape_begun.f kj1 t129).bind fun t132 => (some (t132, 0))))) else (none)) else (none)) = some (r1, r2) := by first | (rw [hy116]; with_reducible exact H) | (have H2_ := (Option.bind_some _ _).symm.trans H; rw [hy116]; with_reducible exact H2_) | (have H2_ := (Option.bind_some _ _).symm.trans H; with_reducible exact H2_) | with_reducible exact H | (rw [hy116]; exact H) | exact H
    have Ny116 := Aside0.mk hy116
    clear hy116
    obtain ⟨ji17, hji17⟩ : ∃ j_ : Int, (wrap64 ((t113.length : Int) - 1)) = j_ := ⟨_, rfl⟩
    replace H : (if 0 ≤ (ji17) then (if (ji17) ≤ (t113.length : Int) then ((api_Point_57.f kj1 (([y116, (t113.take ((ji17) : Int).toNat)] : List (List (S29))))).bind fun t129 => (if (t129.length : Int) < 3 then (some (([] : List (S29)), 6)) else ((shape_begun.f kj1 t129).bind fun t132 => (some (t132, 0))))) else (none)) else (none)) = some (r1, r2) := by first | (rw [hji17] at H; exact H) | (simp only [hji17] at H ⊢; exact H)
    (try rw [hji17] at A8)
    (try rw [hji17] at A9)
    (try rw [hji17] at A10)
    (try rw [hji17] at A11)
    (try rw [hji17] at A12)
    (try rw [hji17] at A13)
    have hji17w : (IntKind.i64.wrap ((t113.length : Int) - 1)) = ji17 := (i64_w _).trans hji17
    replace H := oi H
    obtain ⟨c18, H⟩ := H
    have c18b0 := eq_true c18
    have c18b1 := decide_eq_true c18
    clear c18
    replace H := oi H
    obtain ⟨c19, H⟩ := H
    have c19b0 := eq_true c19
    have c19b1 := decide_eq_true c19
    clear c19
    obtain ⟨y121, hy121⟩ : ∃ y_ : List (S29), y_ = (t113.take ((ji17) : Int).toNat) := ⟨_, rfl⟩
    replace H : ((api_Point_57.f kj1 (([y116, y121] : List (List (S29))))).bind fun t129 => (if (t129.length : Int) < 3 then (some (([] : List (S29)), 6)) else ((shape_begun.f kj1 t129).bind fun t132 => (some (t132, 0))))) = some (r1, r2) := by first | (rw [hy121]; with_reducible exact H) | (have H2_ := (Option.bind_some _ _).symm.trans H; rw [hy121]; with_reducible exact H2_) | (have H2_ := (Option.bind_some _ _).symm.trans H; with_reducible exact H2_) | with_reducible exact H | (rw [hy121]; exact H) | exact H
    have Ny121 := Aside0.mk hy121
    clear hy121
    obtain ⟨y126, hy126⟩ : ∃ y_ : List (List (S29)), y_ = (([y116, y121] : List (List (S29)))) := ⟨_, rfl⟩
    replace H : ((api_Point_57.f kj1 y126).bind fun t129 => (if (t129.length : Int) < 3 then (some (([] : List (S29)), 6)) else ((shape_begun.f kj1 t129).bind fun t132 => (some (t132, 0))))) = some (r1, r2) := by first | (rw [hy126]; with_reducible exact H) | (have H2_ := (Option.bind_some _ _).symm.trans H; rw [hy126]; with_reducible exact H2_) | (have H2_ := (Option.bind_some _ _).symm.trans H; with_reducible exact H2_) | with_reducible exact H | (rw [hy126]; exact H) | exact H
    have Ny126 := Aside0.mk hy126
    clear hy126
    replace H := Option.bind_eq_some_iff.mp H
    obtain ⟨t129, A200, H⟩ := H
    replace H : (if (t129.length : Int) < 3 then (some (([] : List (S29)), 6)) else ((shape_begun.f kj1 t129).bind fun t132 => (some (t132, 0)))) = some (r1, r2) := H
    have A20 := Aside0.mk A200
    clear A200
    by_cases c21 : (t129.length : Int) < 3
    ·rw [if_pos c21] at H
     have c21b0 := decide_eq_true c21
     have c21b1 : decide (t129.length < 3) = true := decide_eq_true (by omega)
     clear c21
     simp only [Option.some.injEq, Prod.mk.injEq] at H
     obtain ⟨rfl, rfl⟩ := H
     try go_wp2_with (first | ((with_reducible refine gc 49 rfl ?_); refine goesL_ (some 22) rfl rfl Try.func49 (by kernel_rfl) rfl #[.slice A0 l0.length c0] rfl sg ?_; (with_reducible refine (slices_Clone.calls _ _ l0 t102 _ ?side1 ?side2 A8.out).mono ?_); (case side1 => exact cs (Kd.C_below HR0.out HB.out)); (case side2 => exact HC0.out); rintro e w22 ⟨v103, rfl, ho0, hb⟩; refine ⟨_, rfl, ?_⟩; have HO104 := Aside0.mk (Kd.R_lower ho0 (below_size bh)); replace HB := Aside0.mk (below_step bh hb); (try clear hb); (try clear hb2); (try clear hk); (try clear hi); (try clear ho0); obtain ⟨Ao23, co23, eo23⟩ := Kd.R_slice HO104.out; subst eo23) | ((with_reducible refine gc 50 rfl ?_); refine goesL_ (some 24) rfl rfl Try.func50 (by kernel_rfl) rfl #[.slice Ao23 t102.length co23, .func (.func 51) #[] #[]] rfl sg ?_; (with_reducible refine (slices_SortFunc_xy.calls (fun k_ => some k_ = (.slice Ao23 t102.length co23 : Value).ownBlock) (.slice Ao23 t102.length co23) t102  t105 w _ ?side1 ?side2 A9.out).mono ?_); (case side1 => repeat (first | (with_reducible first | exact HB.out | apply below_alloc | apply pw_below_drewN | apply below_drew1) | exact HB.out)); (case side2 => exact Kd.R_tight rfl HO104.out); rintro e w24 ⟨rfl, hy0, hb, hkp⟩; refine ⟨_, rfl, ?_⟩; replace HO104 := Aside0.mk (Kd.R_reok rfl hy0 (fun k_ e_ => HO104.out.1 k_ e_)); replace HB := Aside0.mk (hb); (try clear hb); (try clear hkp); (try clear hy0)) | ((with_reducible refine gc 54 rfl ?_); refine goesL_ (some 26) rfl rfl Try.func54 (by kernel_rfl) rfl #[.slice Ao23 t102.length co23] rfl sg ?_; (with_reducible refine (slices_Compact.calls (fun k_ => some k_ = (.slice Ao23 t102.length co23 : Value).ownBlock) (.slice Ao23 t102.length co23) t105 t106 w _ ?side1 ?side2 A10.out).mono ?_); (case side1 => repeat (first | (with_reducible first | exact HB.out | apply below_alloc | apply pw_below_drewN | apply below_drew1) | exact HB.out)); (case side2 => exact Kd.R_tight rfl HO104.out); rintro e w25 ⟨v107, rfl, ho0, hb, hkp⟩; refine ⟨_, rfl, ?_⟩; have HO108 := Aside0.mk (Kd.R_mono (ok' := fun k_ => True) ho0 (fun k_ hk_ => trivial)); replace HB := Aside0.mk (hb); clear HO104; (try clear hb); (try clear hkp); (try clear ho0); obtain ⟨Ao26, co26, eo26⟩ := Kd.R_slice HO108.out; subst eo26) | ((with_reducible refine gc 55 rfl ?_); refine goesL_ (some 28) rfl rfl Try.func55 (by kernel_rfl) rfl #[.slice Ao26 t106.length co26] rfl sg ?_; (with_reducible refine (shape_chain.calls kj1 _ _ t106 t109 _ ?side1 ?side2 A11.out).mono ?_); (case side1 => exact cs (Kd.R_reads' HO108.out).2.2); (case side2 => exact (Kd.R_reads' HO108.out).2.1); rintro e w27 ⟨v110, rfl, ho0, hb⟩; refine ⟨_, rfl, ?_⟩; have HO111 := Aside0.mk (Kd.R_lower (Kd.R_new' ho0 (Kd.R_lt (ro HO108))) (below_size bh)); replace HO108 := Aside0.mk (Kd.R_elder' (ro HO108) (Kd.R_base ho0) hb); replace HB := Aside0.mk (below_step bh hb); (try clear hb); (try clear hb2); (try clear hk); (try clear hi); (try clear ho0)) | ((with_reducible refine gc 56 rfl ?_); refine goesL_ (some 30) rfl rfl Try.func56 (by kernel_rfl) rfl #[.slice Ao26 t106.length co26] rfl sg ?_; (with_reducible refine (slices_Reverse.calls (fun k_ => some k_ = (.slice Ao26 t106.length co26 : Value).ownBlock) (.slice Ao26 t106.length co26) t106 t112 w _ ?side1 ?side2 A12.out).mono ?_); (case side1 => repeat (first | (with_reducible first | exact HB.out | apply below_alloc | apply pw_below_drewN | apply below_drew1) | exact HB.out)); (case side2 => exact Kd.R_tight rfl HO108.out); rintro e w28 ⟨rfl, hy0, hb, hkp⟩; refine ⟨_, rfl, ?_⟩; replace HO108 := Aside0.mk (Kd.R_reok rfl hy0 (fun k_ e_ => HO108.out.1 k_ e_)); replace HO111 := Aside0.mk (Kd.R_mono (ok' := fun k_ => some k_ ≠ (.slice Ao26 t106.length co26 : Value).ownBlock) (Kd.R_keptB (HO111.out) hkp (fun k_ hk_ hs_ => (hk_.2) hs_)) (fun k_ hk_ => hk_.1.2)); replace HB := Aside0.mk (hb); (try clear hb); (try clear hkp); (try clear hy0)) | ((with_reducible refine gc 55 rfl ?_); refine goesL_ (some 32) rfl rfl Try.func55 (by kernel_rfl) rfl #[.slice Ao26 t112.length co26] rfl (by (try simp only [List.map_toArray, List.map_cons, List.map_nil]); first | done | (rw [show t112.length = t106.length from (Kd.R_reads' HO108.out).1.symm] <;> rfl) | rfl | (simp only [List.length_drop, List.length_take]; rfl)) ?_; (with_reducible refine (shape_chain.calls kj1 _ _ t112 t113 _ ?side1 ?side2 A13.out).mono ?_); (case side1 => exact cs (Kd.R_reads' HO108.out).2.2); (case side2 => rw [show t112.length = t106.length from (Kd.R_reads' HO108.out).1.symm]; exact (Kd.R_reads' HO108.out).2.1); rintro e w29 ⟨v114, rfl, ho0, hb⟩; refine ⟨_, rfl, ?_⟩; have HO115 := Aside0.mk (Kd.R_lower (Kd.R_new' (Kd.R_new' ho0 (Kd.R_lt (ro HO108))) (Kd.R_lt (ro HO111))) (below_size bh)); replace HO108 := Aside0.mk (Kd.R_elder' (ro HO108) (Kd.R_base ho0) hb); replace HO111 := Aside0.mk (Kd.R_elder' (ro HO111) (Kd.R_base ho0) hb); replace HB := Aside0.mk (below_step bh hb); (try clear hb); (try clear hb2); (try clear hk); (try clear hi); (try clear ho0)))
     replace HO108 := Aside0.mk (Kd.R_drew HO108.out)
     replace HO111 := Aside0.mk (Kd.R_drew HO111.out)
     replace HO115 := Aside0.mk (Kd.R_drew HO115.out)
     replace HB := Aside0.mk (below_drew1 HB.out)
     obtain ⟨Ao31, co31, eo31⟩ := Kd.R_slice HO111.out
     (first | subst eo31 | (injection eo31 with f1_ f2_ f3_; have f4_ := f1_.symm; have f5_ := f3_.symm; clear f1_ f2_ f3_; subst f4_; subst f5_))
     have q32 : ((ji14) : Int) ≤ ((t109.length : Int) : Int) := dt
     obtain ⟨i032, hi032, _, hsz32, _⟩ := info_parts info29
     have hroom32 : t109.length ≤ co31 := (Kd.R_reads' HO111.out).2.1
     have hC32 : Kd.F k29 _ _ Ao31 t109.length t109 := (Kd.V_at (base := w.heap.size) (Kd.R_V HO111.out)).2.2
     have hcut32 := cut_to (P := Try.prog) 22 29 .i64 Try.underlying22 hi032 Ao31 t109.length co31 (ji14) (dt) q32 hroom32
     have hr32 := Kd.F_take (m := ((ji14) : Int).toNat) hC32 (by omega)
     have hy32 : y116.length = ((ji14) : Int).toNat := (by rw [Ny116.out, List.length_take]; omega)
     rw [← Ny116.out] at hr32
     rw [← hy32] at hcut32
     have HO120 := Aside0.mk (show Kd.V k29 29 _ w.heap.size _ (.slice Ao31 y116.length co31) y116 from Kd.V_mk (by omega) hr32)
     have HC120 := Aside0.mk (show y116.length ≤ co31 from by omega)
     clear hr32 hC32 hroom32 hi032 hsz32
     have KY32 := Aside0.mk hy32
     clear hy32
     replace q32 := eq_true q32
     obtain ⟨Ao33, co33, eo33⟩ := Kd.R_slice HO115.out
     (first | subst eo33 | (injection eo33 with f1_ f2_ f3_; have f4_ := f1_.symm; have f5_ := f3_.symm; clear f1_ f2_ f3_; subst f4_; subst f5_))
     have q34 : ((ji17) : Int) ≤ ((t113.length : Int) : Int) := dt
     obtain ⟨i034, hi034, _, hsz34, _⟩ := info_parts info29
     have hroom34 : t113.length ≤ co33 := (Kd.R_reads' HO115.out).2.1
     have hC34 : Kd.F k29 _ _ Ao33 t113.length t113 := (Kd.V_at (base := w.heap.size) (Kd.R_V HO115.out)).2.2
     have hcut34 := cut_to (P := Try.prog) 22 29 .i64 Try.underlying22 hi034 Ao33 t113.length co33 (ji17) (dt) q34 hroom34
     have hr34 := Kd.F_take (m := ((ji17) : Int).toNat) hC34 (by omega)
     have hy34 : y121.length = ((ji17) : Int).toNat := (by rw [Ny121.out, List.length_take]; omega)
     rw [← Ny121.out] at hr34
     rw [← hy34] at hcut34
     have HO125 := Aside0.mk (show Kd.V k29 29 _ w.heap.size _ (.slice Ao33 y121.length co33) y121 from Kd.V_mk (by omega) hr34)
     have HC125 := Aside0.mk (show y121.length ≤ co33 from by omega)
     clear hr34 hC34 hroom34 hi034 hsz34
     have KY34 := Aside0.mk hy34
     clear hy34
     replace q34 := eq_true q34
     refine start_ (n := 13) (S := fun w' => True) (ds := []) #[N,N,N,N,N,N,N,N,N,N,N,N,N] (by kernel_rfl) rfl rfl trivial (fun hHeld => ?_); refine with_tabW shape_Hull.tab9 shape_Hull.bits9 (fun HT_ HW_ => ?_)
     generalize w29.drew = w30 at HO108 HO111 HO115 HB HO120 HO125 hHeld ⊢
     refine pu 0 33 HT_ ?_
     refine pu 1 34 HT_ ?_
     refine pu 2 35 HT_ ?_
     refine pu 3 36 HT_ ?_
     refine pu 4 37 HT_ ?_
     refine pu 5 38 HT_ ?_
     refine pu 6 39 HT_ ?_
     refine pu 7 40 HT_ ?_
     refine pu 8 41 HT_ ?_
     refine pu 9 42 HT_ ?_
     refine one_ (i := 10) (N := some 43) #[T,T,T,T,T,T,T,T,T,T,T,N,N] rfl rfl (on1 HT_) (by decide) (fun K hK => ?_)
     refine Kd.N_lit_step (Kd.slice 29 k29) _ 22 ?hg (N' := 43) ?hd (xs := ([y116, y121] : List (List (S29)))) (inner := [.slice Ao31 y116.length co31, .slice Ao33 y121.length co33]) (ok := (fun k_ => some k_ ≠ (.slice Ao26 t106.length co26 : Value).ownBlock)) (okp := (fun k_ => some k_ ≠ (.slice Ao26 t106.length co26 : Value).ownBlock)) ?hr ?hp (fun _ hk => hk) ((show ∀ k_, w30.heap.size ≤ k_ → (fun k_ => some k_ ≠ (.slice Ao26 t106.length co26 : Value).ownBlock) k_ from fun k_ hk => Kd.fresh' (Kd.R_lt (ro HO108)) k_ hk) _ (Nat.le_refl _)) (Below.refl _ _) (Nat.le_refl _) (by simp) ?_; (case hd => rfl); (case hg => rfl); (case hr => first | (go_simp; done) | (go_simp; rfl)); (case hp => exact (Reps.one (show Kd.FK (Kd.slice 29 k29) _ _ y116 [.slice Ao31 y116.length co31] from (Kd.FK_slice_mk (Kd.V_reads' (Kd.V_mono (ok' := (fun k_ => some k_ ≠ (.slice Ao26 t106.length co26 : Value).ownBlock)) (HO120.out) (fun k_ hk => hk.1))).2.1 (Kd.V_F (Kd.V_mono (ok' := (fun k_ => some k_ ≠ (.slice Ao26 t106.length co26 : Value).ownBlock)) (HO120.out) (fun k_ hk => hk.1))))) (Reps.one (show Kd.FK (Kd.slice 29 k29) _ _ y121 [.slice Ao33 y121.length co33] from (Kd.FK_slice_mk (Kd.V_reads' (Kd.V_mono (ok' := (fun k_ => some k_ ≠ (.slice Ao26 t106.length co26 : Value).ownBlock)) (HO125.out) (fun k_ hk => hk.1.2))).2.1 (Kd.V_F (Kd.V_mono (ok' := (fun k_ => some k_ ≠ (.slice Ao26 t106.length co26 : Value).ownBlock)) (HO125.out) (fun k_ hk => hk.1.2))))) (Reps.none _ _))))
     intro v127 w35 ho36 hb hg_ hnew_
     clear hg_ hnew_
     (first | rw [← Ny126.out] at ho36 | (simp only [Int.reduceToNat] at ho36; rw [← Ny126.out] at ho36))
     have HO128 := Aside0.mk (Kd.N_lower ho36 (below_size bh))
     replace HO108 := Aside0.mk (Kd.R_below (ro HO108) hb)
     replace HO111 := Aside0.mk (Kd.R_below (ro HO111) hb)
     replace HO115 := Aside0.mk (Kd.R_below (ro HO115) hb)
     replace HO120 := Aside0.mk (Kd.V_elder' (vo HO120) (Kd.N_base ho36) hb)
     replace HO125 := Aside0.mk (Kd.V_elder' (vo HO125) (Kd.N_base ho36) hb)
     replace HB := Aside0.mk (below_step bh hb)
     clear hb ho36
     obtain ⟨Ao37, co37, eo37⟩ := Kd.N_slice HO128.out
     (first | subst eo37 | (injection eo37 with f1_ f2_ f3_; have f4_ := f1_.symm; have f5_ := f3_.symm; clear f1_ f2_ f3_; subst f4_; subst f5_))
     refine hK.out _ _ trivial (fun hHeld => ?_)
     clear hK K
     refine nm 43 ?_
     refine one_ (i := 11) (N := some 44) #[T,T,T,T,T,T,T,T,T,T,T,T,N] rfl rfl (on1 HT_) (by decide) (fun K hK => ?_)
     refine goes_ Try.func57 (by kernel_rfl) rfl #[.slice Ao37 y126.length co37] (by rfl) rfl rfl sg ?_
     with_reducible refine (api_Point_57.calls kj1 _ _ y126 t129 _ ?side1 ?side2 A20.out).mono ?_
     (case side1 => exact cs (Kd.N_reads' HO128.out).2.2)
     (case side2 => exact (Kd.N_reads' HO128.out).2.1)
     rintro e w38 ⟨v130, rfl, ho0, hb⟩
     refine ⟨_, rfl, ?_⟩
     have HO131 := Aside0.mk (Kd.R_lower (Kd.R_new' (Kd.R_new' (Kd.R_new' ho0 (Kd.R_lt (ro HO108))) (Kd.R_lt (ro HO111))) (Kd.R_lt (ro HO115))) (below_size bh))
     replace HO108 := Aside0.mk (Kd.R_elder' (ro HO108) (Kd.R_base ho0) hb)
     replace HO111 := Aside0.mk (Kd.R_elder' (ro HO111) (Kd.R_base ho0) hb)
     replace HO115 := Aside0.mk (Kd.R_elder' (ro HO115) (Kd.R_base ho0) hb)
     replace HO120 := Aside0.mk (Kd.V_elder' (vo HO120) (Kd.R_base ho0) hb)
     replace HO125 := Aside0.mk (Kd.V_elder' (vo HO125) (Kd.R_base ho0) hb)
     replace HO128 := Aside0.mk (Kd.N_elder' (no HO128) (Kd.R_base ho0) hb)
     replace HB := Aside0.mk (below_step bh hb)
     (try clear hb); (try clear hb2); (try clear hk); (try clear hi); (try clear ho0)
     refine hK.out _ _ trivial (fun hHeld => ?_)
     clear hK K
     refine nm 44 ?_
     refine pu 12 7 HT_ ?_
     refine done_ (done_of HT_.out (by kernel_rfl)) ?_
     obtain ⟨Ao39, co39, eo39⟩ := Kd.R_slice HO131.out
     subst eo39
     try go_wp2
     go_ret2
     exact ⟨_, by first | rfl | (simp [errW_none, errW_some] <;> rfl) | (simp only [← hji14, ← hji17]; first | rfl | (simp [errW_none, errW_some] <;> rfl)) | (simp [*, errW_none, errW_some] <;> rfl), by first | exact Kd.R_nil _ _ _ _ _ | exact Kd.N_nil _ _ _ _ _ | exact Kd.V_nil _ _ _ _ _ | exact Kd.Q_nil _ _ _ _ _ | exact Kd.S_nil _ _ _ _ _, bh⟩
    ·rw [if_neg c21] at H
     have c21b0 := decide_eq_false c21
     have c21b1 : decide (t129.length < 3) = false := decide_eq_false (by omega)
     clear c21
     replace H := Option.bind_eq_some_iff.mp H
     obtain ⟨t132, A400, H⟩ := H
     replace H : (some (t132, 0)) = some (r1, r2) := H
     have A40 := Aside0.mk A400
     clear A400
     simp only [Option.some.injEq, Prod.mk.injEq] at H
     obtain ⟨rfl, rfl⟩ := H
     try go_wp2_with (first | ((with_reducible refine gc 49 rfl ?_); refine goesL_ (some 22) rfl rfl Try.func49 (by kernel_rfl) rfl #[.slice A0 l0.length c0] rfl sg ?_; (with_reducible refine (slices_Clone.calls _ _ l0 t102 _ ?side1 ?side2 A8.out).mono ?_); (case side1 => exact cs (Kd.C_below HR0.out HB.out)); (case side2 => exact HC0.out); rintro e w41 ⟨v103, rfl, ho0, hb⟩; refine ⟨_, rfl, ?_⟩; have HO104 := Aside0.mk (Kd.R_lower ho0 (below_size bh)); replace HB := Aside0.mk (below_step bh hb); (try clear hb); (try clear hb2); (try clear hk); (try clear hi); (try clear ho0); obtain ⟨Ao42, co42, eo42⟩ := Kd.R_slice HO104.out; subst eo42) | ((with_reducible refine gc 50 rfl ?_); refine goesL_ (some 24) rfl rfl Try.func50 (by kernel_rfl) rfl #[.slice Ao42 t102.length co42, .func (.func 51) #[] #[]] rfl sg ?_; (with_reducible refine (slices_SortFunc_xy.calls (fun k_ => some k_ = (.slice Ao42 t102.length co42 : Value).ownBlock) (.slice Ao42 t102.length co42) t102  t105 w _ ?side1 ?side2 A9.out).mono ?_); (case side1 => repeat (first | (with_reducible first | exact HB.out | apply below_alloc | apply pw_below_drewN | apply below_drew1) | exact HB.out)); (case side2 => exact Kd.R_tight rfl HO104.out); rintro e w43 ⟨rfl, hy0, hb, hkp⟩; refine ⟨_, rfl, ?_⟩; replace HO104 := Aside0.mk (Kd.R_reok rfl hy0 (fun k_ e_ => HO104.out.1 k_ e_)); replace HB := Aside0.mk (hb); (try clear hb); (try clear hkp); (try clear hy0)) | ((with_reducible refine gc 54 rfl ?_); refine goesL_ (some 26) rfl rfl Try.func54 (by kernel_rfl) rfl #[.slice Ao42 t102.length co42] rfl sg ?_; (with_reducible refine (slices_Compact.calls (fun k_ => some k_ = (.slice Ao42 t102.length co42 : Value).ownBlock) (.slice Ao42 t102.length co42) t105 t106 w _ ?side1 ?side2 A10.out).mono ?_); (case side1 => repeat (first | (with_reducible first | exact HB.out | apply below_alloc | apply pw_below_drewN | apply below_drew1) | exact HB.out)); (case side2 => exact Kd.R_tight rfl HO104.out); rintro e w44 ⟨v107, rfl, ho0, hb, hkp⟩; refine ⟨_, rfl, ?_⟩; have HO108 := Aside0.mk (Kd.R_mono (ok' := fun k_ => True) ho0 (fun k_ hk_ => trivial)); replace HB := Aside0.mk (hb); clear HO104; (try clear hb); (try clear hkp); (try clear ho0); obtain ⟨Ao45, co45, eo45⟩ := Kd.R_slice HO108.out; subst eo45) | ((with_reducible refine gc 55 rfl ?_); refine goesL_ (some 28) rfl rfl Try.func55 (by kernel_rfl) rfl #[.slice Ao45 t106.length co45] rfl sg ?_; (with_reducible refine (shape_chain.calls kj1 _ _ t106 t109 _ ?side1 ?side2 A11.out).mono ?_); (case side1 => exact cs (Kd.R_reads' HO108.out).2.2); (case side2 => exact (Kd.R_reads' HO108.out).2.1); rintro e w46 ⟨v110, rfl, ho0, hb⟩; refine ⟨_, rfl, ?_⟩; have HO111 := Aside0.mk (Kd.R_lower (Kd.R_new' ho0 (Kd.R_lt (ro HO108))) (below_size bh)); replace HO108 := Aside0.mk (Kd.R_elder' (ro HO108) (Kd.R_base ho0) hb); replace HB := Aside0.mk (below_step bh hb); (try clear hb); (try clear hb2); (try clear hk); (try clear hi); (try clear ho0)) | ((with_reducible refine gc 56 rfl ?_); refine goesL_ (some 30) rfl rfl Try.func56 (by kernel_rfl) rfl #[.slice Ao45 t106.length co45] rfl sg ?_; (with_reducible refine (slices_Reverse.calls (fun k_ => some k_ = (.slice Ao45 t106.length co45 : Value).ownBlock) (.slice Ao45 t106.length co45) t106 t112 w _ ?side1 ?side2 A12.out).mono ?_); (case side1 => repeat (first | (with_reducible first | exact HB.out | apply below_alloc | apply pw_below_drewN | apply below_drew1) | exact HB.out)); (case side2 => exact Kd.R_tight rfl HO108.out); rintro e w47 ⟨rfl, hy0, hb, hkp⟩; refine ⟨_, rfl, ?_⟩; replace HO108 := Aside0.mk (Kd.R_reok rfl hy0 (fun k_ e_ => HO108.out.1 k_ e_)); replace HO111 := Aside0.mk (Kd.R_mono (ok' := fun k_ => some k_ ≠ (.slice Ao45 t106.length co45 : Value).ownBlock) (Kd.R_keptB (HO111.out) hkp (fun k_ hk_ hs_ => (hk_.2) hs_)) (fun k_ hk_ => hk_.1.2)); replace HB := Aside0.mk (hb); (try clear hb); (try clear hkp); (try clear hy0)) | ((with_reducible refine gc 55 rfl ?_); refine goesL_ (some 32) rfl rfl Try.func55 (by kernel_rfl) rfl #[.slice Ao45 t112.length co45] rfl (by (try simp only [List.map_toArray, List.map_cons, List.map_nil]); first | done | (rw [show t112.length = t106.length from (Kd.R_reads' HO108.out).1.symm] <;> rfl) | rfl | (simp only [List.length_drop, List.length_take]; rfl)) ?_; (with_reducible refine (shape_chain.calls kj1 _ _ t112 t113 _ ?side1 ?side2 A13.out).mono ?_); (case side1 => exact cs (Kd.R_reads' HO108.out).2.2); (case side2 => rw [show t112.length = t106.length from (Kd.R_reads' HO108.out).1.symm]; exact (Kd.R_reads' HO108.out).2.1); rintro e w48 ⟨v114, rfl, ho0, hb⟩; refine ⟨_, rfl, ?_⟩; have HO115 := Aside0.mk (Kd.R_lower (Kd.R_new' (Kd.R_new' ho0 (Kd.R_lt (ro HO108))) (Kd.R_lt (ro HO111))) (below_size bh)); replace HO108 := Aside0.mk (Kd.R_elder' (ro HO108) (Kd.R_base ho0) hb); replace HO111 := Aside0.mk (Kd.R_elder' (ro HO111) (Kd.R_base ho0) hb); replace HB := Aside0.mk (below_step bh hb); (try clear hb); (try clear hb2); (try clear hk); (try clear hi); (try clear ho0)))
     replace HO108 := Aside0.mk (Kd.R_drew HO108.out)
     replace HO111 := Aside0.mk (Kd.R_drew HO111.out)
     replace HO115 := Aside0.mk (Kd.R_drew HO115.out)
     replace HB := Aside0.mk (below_drew1 HB.out)
     obtain ⟨Ao50, co50, eo50⟩ := Kd.R_slice HO111.out
     (first | subst eo50 | (injection eo50 with f1_ f2_ f3_; have f4_ := f1_.symm; have f5_ := f3_.symm; clear f1_ f2_ f3_; subst f4_; subst f5_))
     have q51 : ((ji14) : Int) ≤ ((t109.length : Int) : Int) := dt
     obtain ⟨i051, hi051, _, hsz51, _⟩ := info_parts info29
     have hroom51 : t109.length ≤ co50 := (Kd.R_reads' HO111.out).2.1
     have hC51 : Kd.F k29 _ _ Ao50 t109.length t109 := (Kd.V_at (base := w.heap.size) (Kd.R_V HO111.out)).2.2
     have hcut51 := cut_to (P := Try.prog) 22 29 .i64 Try.underlying22 hi051 Ao50 t109.length co50 (ji14) (dt) q51 hroom51
     have hr51 := Kd.F_take (m := ((ji14) : Int).toNat) hC51 (by omega)
     have hy51 : y116.length = ((ji14) : Int).toNat := (by rw [Ny116.out, List.length_take]; omega)
     rw [← Ny116.out] at hr51
     rw [← hy51] at hcut51
     have HO120 := Aside0.mk (show Kd.V k29 29 _ w.heap.size _ (.slice Ao50 y116.length co50) y116 from Kd.V_mk (by omega) hr51)
     have HC120 := Aside0.mk (show y116.length ≤ co50 from by omega)
     clear hr51 hC51 hroom51 hi051 hsz51
     have KY51 := Aside0.mk hy51
     clear hy51
     replace q51 := eq_true q51
     obtain ⟨Ao52, co52, eo52⟩ := Kd.R_slice HO115.out
     (first | subst eo52 | (injection eo52 with f1_ f2_ f3_; have f4_ := f1_.symm; have f5_ := f3_.symm; clear f1_ f2_ f3_; subst f4_; subst f5_))
     have q53 : ((ji17) : Int) ≤ ((t113.length : Int) : Int) := dt
     obtain ⟨i053, hi053, _, hsz53, _⟩ := info_parts info29
     have hroom53 : t113.length ≤ co52 := (Kd.R_reads' HO115.out).2.1
     have hC53 : Kd.F k29 _ _ Ao52 t113.length t113 := (Kd.V_at (base := w.heap.size) (Kd.R_V HO115.out)).2.2
     have hcut53 := cut_to (P := Try.prog) 22 29 .i64 Try.underlying22 hi053 Ao52 t113.length co52 (ji17) (dt) q53 hroom53
     have hr53 := Kd.F_take (m := ((ji17) : Int).toNat) hC53 (by omega)
     have hy53 : y121.length = ((ji17) : Int).toNat := (by rw [Ny121.out, List.length_take]; omega)
     rw [← Ny121.out] at hr53
     rw [← hy53] at hcut53
     have HO125 := Aside0.mk (show Kd.V k29 29 _ w.heap.size _ (.slice Ao52 y121.length co52) y121 from Kd.V_mk (by omega) hr53)
     have HC125 := Aside0.mk (show y121.length ≤ co52 from by omega)
     clear hr53 hC53 hroom53 hi053 hsz53
     have KY53 := Aside0.mk hy53
     clear hy53
     replace q53 := eq_true q53
     refine start_ (n := 13) (S := fun w' => True) (ds := []) #[N,N,N,N,N,N,N,N,N,N,N,N,N] (by kernel_rfl) rfl rfl trivial (fun hHeld => ?_); refine with_tabW shape_Hull.tab9 shape_Hull.bits9 (fun HT_ HW_ => ?_)
     generalize w48.drew = w49 at HO108 HO111 HO115 HB HO120 HO125 hHeld ⊢
     refine pu 0 33 HT_ ?_
     refine pu 1 34 HT_ ?_
     refine pu 2 35 HT_ ?_
     refine pu 3 36 HT_ ?_
     refine pu 4 37 HT_ ?_
     refine pu 5 38 HT_ ?_
     refine pu 6 39 HT_ ?_
     refine pu 7 40 HT_ ?_
     refine pu 8 41 HT_ ?_
     refine pu 9 42 HT_ ?_
     refine one_ (i := 10) (N := some 43) #[T,T,T,T,T,T,T,T,T,T,T,N,N] rfl rfl (on1 HT_) (by decide) (fun K hK => ?_)
     refine Kd.N_lit_step (Kd.slice 29 k29) _ 22 ?hg (N' := 43) ?hd (xs := ([y116, y121] : List (List (S29)))) (inner := [.slice Ao50 y116.length co50, .slice Ao52 y121.length co52]) (ok := (fun k_ => some k_ ≠ (.slice Ao45 t106.length co45 : Value).ownBlock)) (okp := (fun k_ => some k_ ≠ (.slice Ao45 t106.length co45 : Value).ownBlock)) ?hr ?hp (fun _ hk => hk) ((show ∀ k_, w49.heap.size ≤ k_ → (fun k_ => some k_ ≠ (.slice Ao45 t106.length co45 : Value).ownBlock) k_ from fun k_ hk => Kd.fresh' (Kd.R_lt (ro HO108)) k_ hk) _ (Nat.le_refl _)) (Below.refl _ _) (Nat.le_refl _) (by simp) ?_; (case hd => rfl); (case hg => rfl); (case hr => first | (go_simp; done) | (go_simp; rfl)); (case hp => exact (Reps.one (show Kd.FK (Kd.slice 29 k29) _ _ y116 [.slice Ao50 y116.length co50] from (Kd.FK_slice_mk (Kd.V_reads' (Kd.V_mono (ok' := (fun k_ => some k_ ≠ (.slice Ao45 t106.length co45 : Value).ownBlock)) (HO120.out) (fun k_ hk => hk.1))).2.1 (Kd.V_F (Kd.V_mono (ok' := (fun k_ => some k_ ≠ (.slice Ao45 t106.length co45 : Value).ownBlock)) (HO120.out) (fun k_ hk => hk.1))))) (Reps.one (show Kd.FK (Kd.slice 29 k29) _ _ y121 [.slice Ao52 y121.length co52] from (Kd.FK_slice_mk (Kd.V_reads' (Kd.V_mono (ok' := (fun k_ => some k_ ≠ (.slice Ao45 t106.length co45 : Value).ownBlock)) (HO125.out) (fun k_ hk => hk.1.2))).2.1 (Kd.V_F (Kd.V_mono (ok' := (fun k_ => some k_ ≠ (.slice Ao45 t106.length co45 : Value).ownBlock)) (HO125.out) (fun k_ hk => hk.1.2))))) (Reps.none _ _))))
     intro v127 w54 ho55 hb hg_ hnew_
     clear hg_ hnew_
     (first | rw [← Ny126.out] at ho55 | (simp only [Int.reduceToNat] at ho55; rw [← Ny126.out] at ho55))
     have HO128 := Aside0.mk (Kd.N_lower ho55 (below_size bh))
     replace HO108 := Aside0.mk (Kd.R_below (ro HO108) hb)
     replace HO111 := Aside0.mk (Kd.R_below (ro HO111) hb)
     replace HO115 := Aside0.mk (Kd.R_below (ro HO115) hb)
     replace HO120 := Aside0.mk (Kd.V_elder' (vo HO120) (Kd.N_base ho55) hb)
     replace HO125 := Aside0.mk (Kd.V_elder' (vo HO125) (Kd.N_base ho55) hb)
     replace HB := Aside0.mk (below_step bh hb)
     clear hb ho55
     obtain ⟨Ao56, co56, eo56⟩ := Kd.N_slice HO128.out
     (first | subst eo56 | (injection eo56 with f1_ f2_ f3_; have f4_ := f1_.symm; have f5_ := f3_.symm; clear f1_ f2_ f3_; subst f4_; subst f5_))
     refine hK.out _ _ trivial (fun hHeld => ?_)
     clear hK K
     refine nm 43 ?_
     refine one_ (i := 11) (N := some 44) #[T,T,T,T,T,T,T,T,T,T,T,T,N] rfl rfl (on1 HT_) (by decide) (fun K hK => ?_)
     refine goes_ Try.func57 (by kernel_rfl) rfl #[.slice Ao56 y126.length co56] (by rfl) rfl rfl sg ?_
     with_reducible refine (api_Point_57.calls kj1 _ _ y126 t129 _ ?side1 ?side2 A20.out).mono ?_
     (case side1 => exact cs (Kd.N_reads' HO128.out).2.2)
     (case side2 => exact (Kd.N_reads' HO128.out).2.1)
     rintro e w57 ⟨v130, rfl, ho0, hb⟩
     refine ⟨_, rfl, ?_⟩
     have HO131 := Aside0.mk (Kd.R_lower (Kd.R_new' (Kd.R_new' (Kd.R_new' ho0 (Kd.R_lt (ro HO108))) (Kd.R_lt (ro HO111))) (Kd.R_lt (ro HO115))) (below_size bh))
     replace HO108 := Aside0.mk (Kd.R_elder' (ro HO108) (Kd.R_base ho0) hb)
     replace HO111 := Aside0.mk (Kd.R_elder' (ro HO111) (Kd.R_base ho0) hb)
     replace HO115 := Aside0.mk (Kd.R_elder' (ro HO115) (Kd.R_base ho0) hb)
     replace HO120 := Aside0.mk (Kd.V_elder' (vo HO120) (Kd.R_base ho0) hb)
     replace HO125 := Aside0.mk (Kd.V_elder' (vo HO125) (Kd.R_base ho0) hb)
     replace HO128 := Aside0.mk (Kd.N_elder' (no HO128) (Kd.R_base ho0) hb)
     replace HB := Aside0.mk (below_step bh hb)
     (try clear hb); (try clear hb2); (try clear hk); (try clear hi); (try clear ho0)
     refine hK.out _ _ trivial (fun hHeld => ?_)
     clear hK K
     refine nm 44 ?_
     refine pu 12 7 HT_ ?_
     refine done_ (done_of HT_.out (by kernel_rfl)) ?_
     obtain ⟨Ao58, co58, eo58⟩ := Kd.R_slice HO131.out
     subst eo58
     try go_wp2_with (first | ((with_reducible refine gc 58 rfl ?_); refine goesL_ (some 49) rfl rfl Try.func58 (by kernel_rfl) rfl #[.slice Ao58 t129.length co58] rfl sg ?_; (with_reducible refine (shape_begun.calls kj1 (fun k_ => some k_ = (.slice Ao58 t129.length co58 : Value).ownBlock) _ _ t129 t132 _ ?side1 A40.out).mono ?_); (case side1 => exact Kd.R_V (Kd.R_tight rfl (Kd.R_apart' (HO131.out) (Kd.N_typed HO128.out) (by decide)))); rintro e w59 ⟨v133, rfl, ho0, hb⟩; refine ⟨_, rfl, ?_⟩; have HO134 := Aside0.mk (Kd.R_lower (Kd.R_new' (Kd.R_new' (Kd.R_new' (Kd.R_new' (Kd.R_mono (ok' := fun k_ => True) ho0 (fun _ hk_ => trivial)) (Kd.R_lt (ro HO108))) (Kd.R_lt (ro HO111))) (Kd.R_lt (ro HO115))) (Kd.R_lt (ro HO131))) (below_size bh)); replace HO108 := Aside0.mk (Kd.R_elder' (ro HO108) (Kd.R_base ho0) hb); replace HO111 := Aside0.mk (Kd.R_elder' (ro HO111) (Kd.R_base ho0) hb); replace HO115 := Aside0.mk (Kd.R_elder' (ro HO115) (Kd.R_base ho0) hb); replace HO120 := Aside0.mk (Kd.V_elder' (vo HO120) (Kd.R_base ho0) hb); replace HO125 := Aside0.mk (Kd.V_elder' (vo HO125) (Kd.R_base ho0) hb); replace HO128 := Aside0.mk (Kd.N_elder' (no HO128) (Kd.R_base ho0) hb); replace HO131 := Aside0.mk (Kd.R_elder' (ro HO131) (Kd.R_base ho0) hb); replace HB := Aside0.mk (below_step bh hb); (try clear hb); (try clear hb2); (try clear hk); (try clear hi); (try clear ho0)))
     go_ret2
     exact ⟨_, by first | rfl | (simp [errW_none, errW_some] <;> rfl) | (simp only [← hji14, ← hji17]; first | rfl | (simp [errW_none, errW_some] <;> rfl)) | (simp [*, errW_none, errW_some] <;> rfl), by (with_reducible repeat (first | apply Kd.R_alloc | apply Kd.R_drewN | apply Kd.R_drew)); exact Kd.R_mono HO134.out (fun _ hk => trivial), bh⟩
/-! ### cracknellaw04_lives: function 18 -/
def cracknellaw04_lives.f (k : Nat)  : Option (Bool) := (some (([(⟨0, 0⟩ : S29), (⟨2, 0⟩ : S29), (⟨2, 2⟩ : S29), (⟨0, 2⟩ : S29)] : List (S29)) : List (S29))).bind fun y101 => ((shape_Area2.f k y101).bind fun bt104 => ((shape_Lattice.f k y101).bind fun bt106 => ((shape_Hull.f k (([(⟨0, 0⟩ : S29), (⟨1, 0⟩ : S29), (⟨2, 0⟩ : S29), (⟨0, 2⟩ : S29), (⟨1, 1⟩ : S29)] : List (S29)))).bind fun bt112 => (if bt104.1 = 8 then (if bt104.2 = 0 then (if bt106.1 = 1 then (if bt106.2.1 = 8 then (if bt106.2.2 = 0 then (if bt112.2 = 0 then ((cracknelref04_Same.f k bt112.1 (([(⟨0, 0⟩ : S29), (⟨2, 0⟩ : S29), (⟨0, 2⟩ : S29)] : List (S29)))).bind fun t119 => (some t119)) else (some false)) else (some false)) else (some false)) else (some false)) else (some false)) else (some false)))))
set_option maxHeartbeats 8000000 in
set_option maxRecDepth 100000 in
theorem cracknellaw04_lives.calls (k : Nat)  (r : Bool) (w : World) (h : cracknellaw04_lives.f k  = some r) (hr : r = true) :
  Calls Try.prog 18 #[] w fun e w' => e = .returned (.bool r) ∧ Below w.heap.size w w' := by
 have hu29 := Try.underlying29
 have HB := Aside0.mk (Below.refl w.heap.size w)
 have H : ((some (([(⟨0, 0⟩ : S29), (⟨2, 0⟩ : S29), (⟨2, 2⟩ : S29), (⟨0, 2⟩ : S29)] : List (S29)) : List (S29))).bind fun y101 => ((shape_Area2.f k y101).bind fun bt104 => ((shape_Lattice.f k y101).bind fun bt106 => ((shape_Hull.f k (([(⟨0, 0⟩ : S29), (⟨1, 0⟩ : S29), (⟨2, 0⟩ : S29), (⟨0, 2⟩ : S29), (⟨1, 1⟩ : S29)] : List (S29)))).bind fun bt112 => (if bt104.1 = 8 then (if bt104.2 = 0 then (if bt106.1 = 1 then (if bt106.2.1 = 8 then (if bt106.2.2 = 0 then (if bt112.2 = 0 then ((cracknelref04_Same.f k bt112.1 (([(⟨0, 0⟩ : S29), (⟨2, 0⟩ : S29), (⟨0, 2⟩ : S29)] : List (S29)))).bind fun t119 => (some t119)) else (some false)) else (some false)) else (some false)) else (some false)) else (some false)) else (some false)))))) = some r := h
 clear h
 obtain ⟨y101, hy101⟩ : ∃ y_ : List (S29), y_ = (([(⟨0, 0⟩ : S29), (⟨2, 0⟩ : S29), (⟨2, 2⟩ : S29), (⟨0, 2⟩ : S29)] : List (S29))) := ⟨_, rfl⟩
 replace H : ((shape_Area2.f k y101).bind fun bt104 => ((shape_Lattice.f k y101).bind fun bt106 => ((shape_Hull.f k (([(⟨0, 0⟩ : S29), (⟨1, 0⟩ : S29), (⟨2, 0⟩ : S29), (⟨0, 2⟩ : S29), (⟨1, 1⟩ : S29)] : List (S29)))).bind fun bt112 => (if bt104.1 = 8 then (if bt104.2 = 0 then (if bt106.1 = 1 then (if bt106.2.1 = 8 then (if bt106.2.2 = 0 then (if bt112.2 = 0 then ((cracknelref04_Same.f k bt112.1 (([(⟨0, 0⟩ : S29), (⟨2, 0⟩ : S29), (⟨0, 2⟩ : S29)] : List (S29)))).bind fun t119 => (some t119)) else (some false)) else (some false)) else (some false)) else (some false)) else (some false)) else (some false))))) = some r := by first | (rw [hy101]; with_reducible exact H) | (have H2_ := (Option.bind_some _ _).symm.trans H; rw [hy101]; with_reducible exact H2_) | (have H2_ := (Option.bind_some _ _).symm.trans H; with_reducible exact H2_) | with_reducible exact H | (rw [hy101]; exact H) | exact H
 have Ny101 := Aside0.mk hy101
 clear hy101
 replace H := Option.bind_eq_some_iff.mp H
 obtain ⟨⟨t104, t105⟩, A10, H⟩ := H
 try dsimp only at H
 have A1 := Aside0.mk A10
 clear A10
 replace H := Option.bind_eq_some_iff.mp H
 obtain ⟨⟨t106, t107, t108⟩, A20, H⟩ := H
 try dsimp only at H
 have A2 := Aside0.mk A20
 clear A20
 obtain ⟨y109, hy109⟩ : ∃ y_ : List (S29), y_ = (([(⟨0, 0⟩ : S29), (⟨1, 0⟩ : S29), (⟨2, 0⟩ : S29), (⟨0, 2⟩ : S29), (⟨1, 1⟩ : S29)] : List (S29))) := ⟨_, rfl⟩
 replace H : ((shape_Hull.f k y109).bind fun bt112 => (if t104 = 8 then (if t105 = 0 then (if t106 = 1 then (if t107 = 8 then (if t108 = 0 then (if bt112.2 = 0 then ((cracknelref04_Same.f k bt112.1 (([(⟨0, 0⟩ : S29), (⟨2, 0⟩ : S29), (⟨0, 2⟩ : S29)] : List (S29)))).bind fun t119 => (some t119)) else (some false)) else (some false)) else (some false)) else (some false)) else (some false)) else (some false))) = some r := by first | (rw [hy109]; with_reducible exact H) | (have H2_ := (Option.bind_some _ _).symm.trans H; rw [hy109]; with_reducible exact H2_) | (have H2_ := (Option.bind_some _ _).symm.trans H; with_reducible exact H2_) | with_reducible exact H | (rw [hy109]; exact H) | exact H
 have Ny109 := Aside0.mk hy109
 clear hy109
 replace H := Option.bind_eq_some_iff.mp H
 obtain ⟨⟨t112, t113⟩, A30, H⟩ := H
 try dsimp only at H
 have A3 := Aside0.mk A30
 clear A30
 by_cases c4 : t104 = 8
 ·rw [if_pos c4] at H
  have c4b0 : (t104 == 8) = true := beq_iff_eq.mpr c4
  have c4b1 : (t104 != 8) = false := bne_eq_false_iff_eq.mpr c4
  clear c4
  by_cases c5 : t105 = 0
  ·rw [if_pos c5] at H
   have c5b0 : (t105 == 0) = true := beq_iff_eq.mpr c5
   have c5b1 : (t105 != 0) = false := bne_eq_false_iff_eq.mpr c5
   clear c5
   by_cases c6 : t106 = 1
   ·rw [if_pos c6] at H
    have c6b0 : (t106 == 1) = true := beq_iff_eq.mpr c6
    have c6b1 : (t106 != 1) = false := bne_eq_false_iff_eq.mpr c6
    clear c6
    by_cases c7 : t107 = 8
    ·rw [if_pos c7] at H
     have c7b0 : (t107 == 8) = true := beq_iff_eq.mpr c7
     have c7b1 : (t107 != 8) = false := bne_eq_false_iff_eq.mpr c7
     clear c7
     by_cases c8 : t108 = 0
     ·rw [if_pos c8] at H
      have c8b0 : (t108 == 0) = true := beq_iff_eq.mpr c8
      have c8b1 : (t108 != 0) = false := bne_eq_false_iff_eq.mpr c8
      clear c8
      by_cases c9 : t113 = 0
      ·rw [if_pos c9] at H
       have c9b0 : (t113 == 0) = true := beq_iff_eq.mpr c9
       have c9b1 : (t113 != 0) = false := bne_eq_false_iff_eq.mpr c9
       clear c9
       obtain ⟨y116, hy116⟩ : ∃ y_ : List (S29), y_ = (([(⟨0, 0⟩ : S29), (⟨2, 0⟩ : S29), (⟨0, 2⟩ : S29)] : List (S29))) := ⟨_, rfl⟩
       replace H : ((cracknelref04_Same.f k t112 y116).bind fun t119 => (some t119)) = some r := by first | (rw [hy116]; with_reducible exact H) | (have H2_ := (Option.bind_some _ _).symm.trans H; rw [hy116]; with_reducible exact H2_) | (have H2_ := (Option.bind_some _ _).symm.trans H; with_reducible exact H2_) | with_reducible exact H | (rw [hy116]; exact H) | exact H
       have Ny116 := Aside0.mk hy116
       clear hy116
       replace H := Option.bind_eq_some_iff.mp H
       obtain ⟨t119, A100, H⟩ := H
       try dsimp only at H
       have A10 := Aside0.mk A100
       clear A100
       obtain rfl := Option.some.inj H
       go_enter Try.func18, Try.ntmps18
       go_wp2_with (first | ((with_reducible refine gate_dst (N := 13) rfl ?_); (try (refine gate_guard (by rfl) ?_; dsimp only)); refine Kd.R_lit k29 _ 29 ?hg (N := 13) ?hd (xs := ([(⟨0, 0⟩ : S29), (⟨2, 0⟩ : S29), (⟨2, 2⟩ : S29), (⟨0, 2⟩ : S29)] : List (S29))) (inner := [.int .i64 0, .int .i64 0, .int .i64 2, .int .i64 0, .int .i64 2, .int .i64 2, .int .i64 0, .int .i64 2]) (ok := fun _ => True) (okp := fun _ => True) ?hr ?hp (fun _ hk => hk) trivial (Below.refl _ _) (Nat.le_refl _) (by simp) ?_; (case hd => rfl); (case hg => rfl); (case hr => first | (go_simp; done) | (go_simp; rfl)); (case hp => exact (Reps.c2 (k29_mkM _ _ _ (⟨0, 0⟩ : S29)) (Reps.c2 (k29_mkM _ _ _ (⟨2, 0⟩ : S29)) (Reps.c2 (k29_mkM _ _ _ (⟨2, 2⟩ : S29)) (Reps.c2 (k29_mkM _ _ _ (⟨0, 2⟩ : S29)) (Reps.none _ _)))))); intro v102 w11 ho12 hb hg_ hnew_; clear hg_ hnew_; (first | rw [← Ny101.out] at ho12 | (simp only [Int.reduceToNat] at ho12; rw [← Ny101.out] at ho12)); have HO103 := Aside0.mk (Kd.R_lower ho12 (below_size bh)); replace HB := Aside0.mk (below_step bh hb); clear hb ho12; obtain ⟨Ao13, co13, eo13⟩ := Kd.R_slice HO103.out; subst eo13) | ((with_reducible refine gc 24 rfl ?_); refine goesL_ (some 16) rfl rfl Try.func24 (by kernel_rfl) rfl #[.slice Ao13 y101.length co13] rfl sg ?_; (with_reducible refine (shape_Area2.calls k _ _ y101 t104 t105 _ ?side1 ?side2 A1.out).mono ?_); (case side1 => exact cs (Kd.R_reads' HO103.out).2.2); (case side2 => exact (Kd.R_reads' HO103.out).2.1); rintro e w14 ⟨rfl, hb⟩; refine ⟨_, rfl, ?_⟩; replace HO103 := Aside0.mk (Kd.R_below (ro HO103) hb); replace HB := Aside0.mk (below_step bh hb); (try clear hb); (try clear hb2); (try clear hk); (try clear hi)) | ((with_reducible refine gc 25 rfl ?_); refine goesL_ (some 21) rfl rfl Try.func25 (by kernel_rfl) rfl #[.slice Ao13 y101.length co13] rfl sg ?_; (with_reducible refine (shape_Lattice.calls k _ _ y101 t106 t107 t108 _ ?side1 ?side2 A2.out).mono ?_); (case side1 => exact cs (Kd.R_reads' HO103.out).2.2); (case side2 => exact (Kd.R_reads' HO103.out).2.1); rintro e w15 ⟨rfl, hb⟩; refine ⟨_, rfl, ?_⟩; replace HO103 := Aside0.mk (Kd.R_below (ro HO103) hb); replace HB := Aside0.mk (below_step bh hb); (try clear hb); (try clear hb2); (try clear hk); (try clear hi)) | ((with_reducible refine gate_dst (N := 31) rfl ?_); (try (refine gate_guard (by rfl) ?_; dsimp only)); refine Kd.R_lit k29 _ 29 ?hg (N := 31) ?hd (xs := ([(⟨0, 0⟩ : S29), (⟨1, 0⟩ : S29), (⟨2, 0⟩ : S29), (⟨0, 2⟩ : S29), (⟨1, 1⟩ : S29)] : List (S29))) (inner := [.int .i64 0, .int .i64 0, .int .i64 1, .int .i64 0, .int .i64 2, .int .i64 0, .int .i64 0, .int .i64 2, .int .i64 1, .int .i64 1]) (ok := fun _ => True) (okp := fun _ => True) ?hr ?hp (fun _ hk => hk) trivial (Below.refl _ _) (Nat.le_refl _) (by simp) ?_; (case hd => rfl); (case hg => rfl); (case hr => first | (go_simp; done) | (go_simp; rfl)); (case hp => exact (Reps.c2 (k29_mkM _ _ _ (⟨0, 0⟩ : S29)) (Reps.c2 (k29_mkM _ _ _ (⟨1, 0⟩ : S29)) (Reps.c2 (k29_mkM _ _ _ (⟨2, 0⟩ : S29)) (Reps.c2 (k29_mkM _ _ _ (⟨0, 2⟩ : S29)) (Reps.c2 (k29_mkM _ _ _ (⟨1, 1⟩ : S29)) (Reps.none _ _))))))); intro v110 w16 ho17 hb hg_ hnew_; clear hg_ hnew_; (first | rw [← Ny109.out] at ho17 | (simp only [Int.reduceToNat] at ho17; rw [← Ny109.out] at ho17)); have HO111 := Aside0.mk (Kd.R_lower (Kd.R_new' ho17 (Kd.R_lt (ro HO103))) (below_size bh)); replace HO103 := Aside0.mk (Kd.R_elder' (ro HO103) (Kd.R_base ho17) hb); replace HB := Aside0.mk (below_step bh hb); clear hb ho17; obtain ⟨Ao18, co18, eo18⟩ := Kd.R_slice HO111.out; subst eo18) | ((with_reducible refine gc 16 rfl ?_); refine goesL_ (some 32) rfl rfl Try.func16 (by kernel_rfl) rfl #[.slice Ao18 y109.length co18] rfl sg ?_; (with_reducible refine (shape_Hull.calls k _ _ y109 t112 t113 _ ?side1 ?side2 A3.out).mono ?_); (case side1 => exact cs (Kd.R_reads' HO111.out).2.2); (case side2 => exact (Kd.R_reads' HO111.out).2.1); rintro e w19 ⟨v114, rfl, ho0, hb⟩; refine ⟨_, rfl, ?_⟩; have HO115 := Aside0.mk (Kd.R_lower (Kd.R_new' (Kd.R_new' ho0 (Kd.R_lt (ro HO103))) (Kd.R_lt (ro HO111))) (below_size bh)); replace HO103 := Aside0.mk (Kd.R_elder' (ro HO103) (Kd.R_base ho0) hb); replace HO111 := Aside0.mk (Kd.R_elder' (ro HO111) (Kd.R_base ho0) hb); replace HB := Aside0.mk (below_step bh hb); (try clear hb); (try clear hb2); (try clear hk); (try clear hi); (try clear ho0)) | ((with_reducible refine gate_dst (N := 62) rfl ?_); (try (refine gate_guard (by rfl) ?_; dsimp only)); refine Kd.R_lit k29 _ 29 ?hg (N := 62) ?hd (xs := ([(⟨0, 0⟩ : S29), (⟨2, 0⟩ : S29), (⟨0, 2⟩ : S29)] : List (S29))) (inner := [.int .i64 0, .int .i64 0, .int .i64 2, .int .i64 0, .int .i64 0, .int .i64 2]) (ok := fun _ => True) (okp := fun _ => True) ?hr ?hp (fun _ hk => hk) trivial (Below.refl _ _) (Nat.le_refl _) (by simp) ?_; (case hd => rfl); (case hg => rfl); (case hr => first | (go_simp; done) | (go_simp; rfl)); (case hp => exact (Reps.c2 (k29_mkM _ _ _ (⟨0, 0⟩ : S29)) (Reps.c2 (k29_mkM _ _ _ (⟨2, 0⟩ : S29)) (Reps.c2 (k29_mkM _ _ _ (⟨0, 2⟩ : S29)) (Reps.none _ _))))); intro v117 w20 ho21 hb hg_ hnew_; clear hg_ hnew_; (first | rw [← Ny116.out] at ho21 | (simp only [Int.reduceToNat] at ho21; rw [← Ny116.out] at ho21)); have HO118 := Aside0.mk (Kd.R_lower (Kd.R_new' (Kd.R_new' (Kd.R_new' ho21 (Kd.R_lt (ro HO103))) (Kd.R_lt (ro HO111))) (Kd.R_lt (ro HO115))) (below_size bh)); replace HO103 := Aside0.mk (Kd.R_elder' (ro HO103) (Kd.R_base ho21) hb); replace HO111 := Aside0.mk (Kd.R_elder' (ro HO111) (Kd.R_base ho21) hb); replace HO115 := Aside0.mk (Kd.R_elder' (ro HO115) (Kd.R_base ho21) hb); replace HB := Aside0.mk (below_step bh hb); clear hb ho21; obtain ⟨Ao22, co22, eo22⟩ := Kd.R_slice HO115.out; subst eo22; obtain ⟨Ao23, co23, eo23⟩ := Kd.R_slice HO118.out; subst eo23) | (go_at_call 20; (with_reducible refine (cracknelref04_Same.calls k _ _ t112 _ _ y116 t119 _ ?side1 ?side2 ?side3 ?side4 A10.out).mono ?_); (case side1 => exact cs (Kd.R_reads' HO115.out).2.2); (case side2 => exact (Kd.R_reads' HO115.out).2.1); (case side3 => exact cs (Kd.R_reads' HO118.out).2.2); (case side4 => exact (Kd.R_reads' HO118.out).2.1); rintro e w' ⟨rfl, ⟨nd, rfl⟩⟩))
       go_ret
       exact ⟨by exact er, bh⟩
      ·rw [if_neg c9] at H
       have c9b0 : (t113 == 0) = false := beq_eq_false_iff_ne.mpr c9
       have c9b1 : (t113 != 0) = true := bne_iff_ne.mpr c9
       obtain rfl := Option.some.inj H
       cases hr
     ·rw [if_neg c8] at H
      have c8b0 : (t108 == 0) = false := beq_eq_false_iff_ne.mpr c8
      have c8b1 : (t108 != 0) = true := bne_iff_ne.mpr c8
      obtain rfl := Option.some.inj H
      cases hr
    ·rw [if_neg c7] at H
     have c7b0 : (t107 == 8) = false := beq_eq_false_iff_ne.mpr c7
     have c7b1 : (t107 != 8) = true := bne_iff_ne.mpr c7
     obtain rfl := Option.some.inj H
     cases hr
   ·rw [if_neg c6] at H
    have c6b0 : (t106 == 1) = false := beq_eq_false_iff_ne.mpr c6
    have c6b1 : (t106 != 1) = true := bne_iff_ne.mpr c6
    obtain rfl := Option.some.inj H
    cases hr
  ·rw [if_neg c5] at H
   have c5b0 : (t105 == 0) = false := beq_eq_false_iff_ne.mpr c5
   have c5b1 : (t105 != 0) = true := bne_iff_ne.mpr c5
   obtain rfl := Option.some.inj H
   cases hr
 ·rw [if_neg c4] at H
  have c4b0 : (t104 == 8) = false := beq_eq_false_iff_ne.mpr c4
  have c4b1 : (t104 != 8) = true := bne_iff_ne.mpr c4
  obtain rfl := Option.some.inj H
  cases hr
/-! ### cracknellaw04_ShapePick: function 4 -/
mutual
def cracknellaw04_ShapePick.j0 : Nat → List (S29) → Int → Int → Option (Bool)
 | 0, _, _, _ => none
 | k + 1, x5, x102000, x102001 => (shape_Area2.f k x5).bind fun bt109 => ((shape_Lattice.f k x5).bind fun bt111 => ((cracknelref04_Moved.f k x5 (Int.tmod x102000 6001) (Int.tmod x102001 6001)).bind fun t114 => (cracknellaw04_ShapePick.l0 k bt109.1 bt109.2 bt111.1 bt111.2.1 bt111.2.2 t114 (([] : List (S29))) (wrap64 ((t114.length : Int) - 1)))))
def cracknellaw04_ShapePick.l0 : Nat → Int → Int → Int → Int → Int → List (S29) → List (S29) → Int → Option (Bool)
 | 0, _, _, _, _, _, _, _, _ => none
 | k + 1, x6, x7, x8, x9, x10, x11, x12, x13 => if x13 ≥ 0 then (if 0 ≤ x13 then (if x13 < (x11.length : Int) then (if x12.length < 8796093022208 then (cracknellaw04_ShapePick.l0 k x6 x7 x8 x9 x10 x11 (x12 ++ [(⟨(rd_T29 x11 x13).f0, (rd_T29 x11 x13).f1⟩ : S29)]) (wrap64 (x13 - 1))) else (none)) else (none)) else (none)) else ((shape_Area2.f k x12).bind fun bt124 => ((shape_Lattice.f k x12).bind fun bt126 => (if x7 = 0 then (if x10 = 0 then (if bt124.2 = 0 then (if bt126.2.2 = 0 then (if (mx x6 (wrap64 (-x6))) = (wrap64 ((wrap64 ((wrap64 (2 * x8)) + x9)) - 2)) then (if bt124.1 = (wrap64 (-x6)) then (if x8 = bt126.1 then (if x9 = bt126.2.1 then ((cracknellaw04_lives.f k).bind fun t129 => (some t129)) else (some false)) else (some false)) else (some false)) else (some false)) else (some false)) else (some false)) else (some false)) else (some false))))
end
def cracknellaw04_ShapePick.f (k : Nat) (l0 : List (S29)) (a1_0 : Int) (a1_1 : Int) : Option (Bool) := (cracknellaw04_star.f k l0 4000).bind fun t102 => ((cracknelref04_Simple.f k t102).bind fun t105 => (if t105 = true then (cracknellaw04_ShapePick.j0 k t102 a1_0 a1_1) else ((cracknellaw04_hull.f k l0 4000).bind fun t106 => (cracknellaw04_ShapePick.j0 k t106 a1_0 a1_1))))
set_option maxHeartbeats 8000000 in
set_option maxRecDepth 100000 in
theorem cracknellaw04_ShapePick.calls (k : Nat) (A0 : Option Addr) (c0 : Nat) (l0 : List (S29)) (a1_0 : Int) (a1_1 : Int) (r : Bool) (w : World) (hr0 : Kd.C k29 w A0 l0.length l0) (hc0 : l0.length ≤ c0) (h : cracknellaw04_ShapePick.f k l0 a1_0 a1_1 = some r) (hr : r = true) :
  Calls Try.prog 4 #[.slice A0 l0.length c0, .agg #[.int .i64 a1_0, .int .i64 a1_1]] w fun e w' => e = .returned (.bool r) ∧ Below w.heap.size w w' := by
 have hu29 := Try.underlying29
 have HR0 := Aside0.mk hr0
 have HC0 := Aside0.mk hc0
 clear hr0 hc0
 have HB := Aside0.mk (Below.refl w.heap.size w)
 have H : ((cracknellaw04_star.f k l0 4000).bind fun t102 => ((cracknelref04_Simple.f k t102).bind fun t105 => (if t105 = true then (cracknellaw04_ShapePick.j0 k t102 a1_0 a1_1) else ((cracknellaw04_hull.f k l0 4000).bind fun t106 => (cracknellaw04_ShapePick.j0 k t106 a1_0 a1_1))))) = some r := h
 clear h
 replace H := Option.bind_eq_some_iff.mp H
 obtain ⟨t102, A30, H⟩ := H
 try dsimp only at H
 have A3 := Aside0.mk A30
 clear A30
 replace H := Option.bind_eq_some_iff.mp H
 obtain ⟨t105, A40, H⟩ := H
 try dsimp only at H
 have A4 := Aside0.mk A40
 clear A40
 have HC5 := Aside0.mk H
 clear H
 go_enter Try.func4, Try.ntmps4
 go_upto_if 23 with (first | ((with_reducible refine gate_dst (N := 3) rfl ?_); (try (refine gate_guard (by rfl) ?_; dsimp only)); refine bxe 3 #[.int .i64 a1_0, .int .i64 a1_1] 29 ?_; intro gb101 hg w6 hbox hb; have BK101 := Aside0.mk (hbox); have GW101 := Aside0.mk (gs hg : w.heap.size ≤ gb101); have GE101 := Aside0.mk (gs hg : w.heap.size ≤ gb101); replace HB := Aside0.mk (below_step bh hb); clear hb hbox hg) | ((with_reducible refine gc 21 rfl ?_); refine goesL_ (some 20) rfl rfl Try.func21 (by kernel_rfl) rfl #[.slice A0 l0.length c0, .int .i64 4000] rfl sg ?_; (with_reducible refine (cracknellaw04_star.calls k _ _ l0 4000 t102 _ ?side1 ?side2 A3.out).mono ?_); (case side1 => exact cs (Kd.C_below HR0.out HB.out)); (case side2 => exact HC0.out); rintro e w7 ⟨v103, rfl, ho0, hb⟩; refine ⟨_, rfl, ?_⟩; have HO104 := Aside0.mk (Kd.R_lower (Kd.R_newB ho0 (g := gb101) (o := .cells #[.int .i64 a1_0, .int .i64 a1_1] 29 (0, 0)) (bk BK101)) (below_size bh)); replace BK101 := kb BK101 hb; replace HB := Aside0.mk (below_step bh hb); (try clear hb); (try clear hb2); (try clear hk); (try clear hi); (try clear ho0); obtain ⟨Ao8, co8, eo8⟩ := Kd.R_slice HO104.out; subst eo8) | ((with_reducible refine gc 22 rfl ?_); refine goesL_ (some 22) rfl rfl Try.func22 (by kernel_rfl) rfl #[.slice Ao8 t102.length co8] rfl sg ?_; (with_reducible refine (cracknelref04_Simple.calls k _ _ t102 t105 _ ?side1 ?side2 A4.out).mono ?_); (case side1 => exact cs (Kd.R_reads' HO104.out).2.2); (case side2 => exact (Kd.R_reads' HO104.out).2.1); rintro e w9 ⟨rfl, hb⟩; refine ⟨_, rfl, ?_⟩; replace HO104 := Aside0.mk (Kd.R_below (ro HO104) hb); replace BK101 := kb BK101 hb; replace HB := Aside0.mk (below_step bh hb); (try clear hb); (try clear hb2); (try clear hk); (try clear hi)))
 (try simp only [Act.put, List.setIfInBounds_toArray, List.set_cons_zero, List.set_cons_succ])
 go_cut [5] (fun v5 wc => ∃ (kq : Nat) (x5_4 : List (S29)), Aside0 (cracknellaw04_ShapePick.j0 kq x5_4 a1_0 a1_1 = some r) ∧ Aside0 (kq ≤ k) ∧ Aside0 (Kd.R k29 29 wc w.heap.size (fun k_ => k_ ≠ gb101) v5 x5_4) ∧ Aside0 (wc.heap[gb101]? = some (.cells #[.int .i64 a1_0, .int .i64 a1_1] 29 (0, 0))) ∧ Aside0 (Below w.heap.size w wc))
 case first =>
  have H := HC5.out
  clear HC5
  by_cases c10 : t105 = true
  ·subst c10
   rw [if_pos rfl] at H
   have H' := Aside0.mk H
   clear H
   go_wp2
   go_meet
   case rel => exact ⟨_, (t102), H', ⟨om⟩, ⟨by (with_reducible repeat (first | apply Kd.R_alloc | apply Kd.R_drewN | apply Kd.R_drew)); exact Kd.R_mono HO104.out (fun _ hk => hk.2)⟩, ⟨bk BK101⟩, ⟨bh⟩⟩
  ·replace c10 := Bool.eq_false_iff.mpr c10
   subst c10
   rw [if_neg (show ¬ (false = true) by decide)] at H
   replace H := Option.bind_eq_some_iff.mp H
   obtain ⟨t106, A110, H⟩ := H
   try dsimp only at H
   have A11 := Aside0.mk A110
   clear A110
   have H' := Aside0.mk H
   clear H
   go_wp2_with (first | ((with_reducible refine gc 23 rfl ?_); refine goesL_ (some 25) rfl rfl Try.func23 (by kernel_rfl) rfl #[.slice A0 l0.length c0, .int .i64 4000] rfl sg ?_; (with_reducible refine (cracknellaw04_hull.calls k _ _ l0 4000 t106 _ ?side1 ?side2 A11.out).mono ?_); (case side1 => exact cs (Kd.C_below HR0.out HB.out)); (case side2 => exact HC0.out); rintro e w12 ⟨v107, rfl, ho0, hb⟩; refine ⟨_, rfl, ?_⟩; have HO108 := Aside0.mk (Kd.R_lower (Kd.R_newB (Kd.R_new' ho0 (Kd.R_lt (ro HO104))) (g := gb101) (o := .cells #[.int .i64 a1_0, .int .i64 a1_1] 29 (0, 0)) (bk BK101)) (below_size bh)); replace HO104 := Aside0.mk (Kd.R_elder' (ro HO104) (Kd.R_base ho0) hb); replace BK101 := kb BK101 hb; replace HB := Aside0.mk (below_step bh hb); (try clear hb); (try clear hb2); (try clear hk); (try clear hi); (try clear ho0)))
   go_meet
   case rel => exact ⟨_, (t106), H', ⟨om⟩, ⟨by (with_reducible repeat (first | apply Kd.R_alloc | apply Kd.R_drewN | apply Kd.R_drew)); exact Kd.R_mono HO108.out (fun _ hk => hk.2)⟩, ⟨bk BK101⟩, ⟨bh⟩⟩
 case rest =>
  clear HC5
  (try clear c1); (try clear c2); (try clear p2); (try clear c4); (try clear c10)
  obtain ⟨kq, x5_4, HA, HJ4, HO_5, BK101, HB⟩ := hcut
  cases kq with
  | zero => exact absurd HA.out (by simp [cracknellaw04_ShapePick.j0])
  | succ kj4 =>
   have H := HA.out
   clear HA
   simp only [cracknellaw04_ShapePick.j0] at H
   replace H := Option.bind_eq_some_iff.mp H
   obtain ⟨⟨t109, t110⟩, A130, H⟩ := H
   try dsimp only at H
   have A13 := Aside0.mk A130
   clear A130
   replace H := Option.bind_eq_some_iff.mp H
   obtain ⟨⟨t111, t112, t113⟩, A140, H⟩ := H
   try dsimp only at H
   have A14 := Aside0.mk A140
   clear A140
   replace H := Option.bind_eq_some_iff.mp H
   obtain ⟨t114, A150, H⟩ := H
   try dsimp only at H
   have A15 := Aside0.mk A150
   clear A150
   obtain ⟨y117, hy117⟩ : ∃ y_ : List (S29), y_ = (([] : List (S29))) := ⟨_, rfl⟩
   replace H : (cracknellaw04_ShapePick.l0 kj4 t109 t110 t111 t112 t113 t114 y117 (wrap64 ((t114.length : Int) - 1))) = some r := by first | (rw [hy117]; with_reducible exact H) | (have H2_ := (Option.bind_some _ _).symm.trans H; rw [hy117]; with_reducible exact H2_) | (have H2_ := (Option.bind_some _ _).symm.trans H; with_reducible exact H2_) | with_reducible exact H | (rw [hy117]; exact H) | exact H
   have Ny117 := Aside0.mk hy117
   clear hy117
   have H' := Aside0.mk H
   clear H
   obtain ⟨Ao16, co16, eo16⟩ := Kd.R_slice HO_5.out
   subst eo16
   go_wp2_with (first | ((with_reducible refine gc 24 rfl ?_); refine goesL_ (some 28) rfl rfl Try.func24 (by kernel_rfl) rfl #[.slice Ao16 x5_4.length co16] rfl sg ?_; (with_reducible refine (shape_Area2.calls kj4 _ _ x5_4 t109 t110 _ ?side1 ?side2 A13.out).mono ?_); (case side1 => exact cs (Kd.R_reads' HO_5.out).2.2); (case side2 => exact (Kd.R_reads' HO_5.out).2.1); rintro e w17 ⟨rfl, hb⟩; refine ⟨_, rfl, ?_⟩; replace HO_5 := Aside0.mk (Kd.R_below (ro HO_5) hb); replace BK101 := kb BK101 hb; replace HB := Aside0.mk (below_step bh hb); (try clear hb); (try clear hb2); (try clear hk); (try clear hi)) | ((with_reducible refine gc 25 rfl ?_); refine goesL_ (some 33) rfl rfl Try.func25 (by kernel_rfl) rfl #[.slice Ao16 x5_4.length co16] rfl sg ?_; (with_reducible refine (shape_Lattice.calls kj4 _ _ x5_4 t111 t112 t113 _ ?side1 ?side2 A14.out).mono ?_); (case side1 => exact cs (Kd.R_reads' HO_5.out).2.2); (case side2 => exact (Kd.R_reads' HO_5.out).2.1); rintro e w18 ⟨rfl, hb⟩; refine ⟨_, rfl, ?_⟩; replace HO_5 := Aside0.mk (Kd.R_below (ro HO_5) hb); replace BK101 := kb BK101 hb; replace HB := Aside0.mk (below_step bh hb); (try clear hb); (try clear hb2); (try clear hk); (try clear hi); have hcz19_0 : w18.cell? ⟨gb101, 0, none⟩ = some (.int .i64 a1_0) := bc BK101 0; have hcz19_1 : w18.cell? ⟨gb101, 1, none⟩ = some (.int .i64 a1_1) := bc BK101 1; have hfz19_0 := blk_frozen BK101.out 0; have hfz19_1 := blk_frozen BK101.out 1) | ((with_reducible refine gc 26 rfl ?_); refine goesL_ (some 46) rfl rfl Try.func26 (by kernel_rfl) rfl #[.slice Ao16 x5_4.length co16, .agg #[.int .i64 (Int.tmod a1_0 6001), .int .i64 (Int.tmod a1_1 6001)]] rfl sg ?_; (with_reducible refine (cracknelref04_Moved.calls kj4 _ _ x5_4 (Int.tmod a1_0 6001) (Int.tmod a1_1 6001) t114 _ ?side1 ?side2 A15.out).mono ?_); (case side1 => refine (Kd.R_reads' (e := 29) (base := w.heap.size) (ok := fun k_ => k_ ≠ gb101) (n := x5_4.length) (c := co16) ?_).2.2; exact (by (with_reducible repeat (first | apply Kd.R_alloc | apply Kd.R_drewN | apply Kd.R_drew)); exact (Kd.R_mono (Kd.R_far (p := ⟨gb101, 1, none⟩) (Kd.R_far (p := ⟨gb101, 0, none⟩) (Kd.R_mono HO_5.out (fun k_ hk => (⟨hk, hk⟩ : _ ∧ k_ ≠ gb101))) (fun _ hk => hk.2) (.int .i64 (Int.tmod a1_0 6001))) (fun _ hk => hk.2) (.int .i64 (Int.tmod a1_1 6001))) (fun _ h_ => h_.1)))); (case side2 => exact (Kd.R_reads' HO_5.out).2.1); rintro e w20 ⟨v115, rfl, ho0, hb⟩; refine ⟨_, rfl, ?_⟩; have HO116 := Aside0.mk (Kd.R_lower (Kd.R_newB (Kd.R_new' ho0 (Kd.R_lt (by (with_reducible repeat (first | apply Kd.R_alloc | apply Kd.R_drewN | apply Kd.R_drew)); exact (Kd.R_mono (Kd.R_far (p := ⟨gb101, 1, none⟩) (Kd.R_far (p := ⟨gb101, 0, none⟩) (Kd.R_mono HO_5.out (fun k_ hk => (⟨hk, hk⟩ : _ ∧ k_ ≠ gb101))) (fun _ hk => hk.2) (.int .i64 (Int.tmod a1_0 6001))) (fun _ hk => hk.2) (.int .i64 (Int.tmod a1_1 6001))) (fun _ h_ => h_.1))))) (g := gb101) (o := .cells #[.int .i64 (Int.tmod a1_0 6001), .int .i64 (Int.tmod a1_1 6001)] 29 (0, 0)) (by refine bd ?_; refine blk_put (cs := #[.int .i64 (Int.tmod a1_0 6001), .int .i64 a1_1]) ?_ 1 _ rfl; refine bd ?_; refine blk_put (cs := #[.int .i64 a1_0, .int .i64 a1_1]) ?_ 0 _ rfl; refine bd ?_; exact BK101.out)) (below_size bh)); replace HO_5 := Aside0.mk (Kd.R_elder' (by (with_reducible repeat (first | apply Kd.R_alloc | apply Kd.R_drewN | apply Kd.R_drew)); exact (Kd.R_mono (Kd.R_far (p := ⟨gb101, 1, none⟩) (Kd.R_far (p := ⟨gb101, 0, none⟩) (Kd.R_mono HO_5.out (fun k_ hk => (⟨hk, hk⟩ : _ ∧ k_ ≠ gb101))) (fun _ hk => hk.2) (.int .i64 (Int.tmod a1_0 6001))) (fun _ hk => hk.2) (.int .i64 (Int.tmod a1_1 6001))) (fun _ h_ => h_.1))) (Kd.R_base ho0) hb); replace BK101 := Aside0.mk (blk_below (g := gb101) (o := .cells #[.int .i64 (Int.tmod a1_0 6001), .int .i64 (Int.tmod a1_1 6001)] 29 (0, 0)) (by refine bd ?_; refine blk_put (cs := #[.int .i64 (Int.tmod a1_0 6001), .int .i64 a1_1]) ?_ 1 _ rfl; refine bd ?_; refine blk_put (cs := #[.int .i64 a1_0, .int .i64 a1_1]) ?_ 0 _ rfl; refine bd ?_; exact BK101.out) hb); replace HB := Aside0.mk (below_step bh hb); (try clear hb); (try clear hb2); (try clear hk); (try clear hi); (try clear ho0)) | ((with_reducible refine gate_dst (N := 47) rfl ?_); (try (refine gate_guard (by rfl) ?_; dsimp only)); refine Kd.R_lit k29 _ 29 ?hg (N := 47) ?hd (xs := ([] : List (S29))) (inner := []) (ok := fun _ => True) (okp := fun _ => True) ?hr ?hp (fun _ hk => hk) trivial (Below.refl _ _) (Nat.le_refl _) (by simp) ?_; (case hd => rfl); (case hg => rfl); (case hr => first | (go_simp; done) | (go_simp; rfl)); (case hp => exact (Reps.none _ _)); intro v118 w21 ho22 hb hg_ hnew_; clear hg_ hnew_; (first | rw [← Ny117.out] at ho22 | (simp only [Int.reduceToNat] at ho22; rw [← Ny117.out] at ho22)); have HO119 := Aside0.mk (Kd.R_lower (Kd.R_newB (Kd.R_new' (Kd.R_new' ho22 (Kd.R_lt (ro HO_5))) (Kd.R_lt (ro HO116))) (g := gb101) (o := .cells #[.int .i64 (Int.tmod a1_0 6001), .int .i64 (Int.tmod a1_1 6001)] 29 (0, 0)) (bk BK101)) (below_size bh)); replace HO_5 := Aside0.mk (Kd.R_elder' (ro HO_5) (Kd.R_base ho22) hb); replace HO116 := Aside0.mk (Kd.R_elder' (ro HO116) (Kd.R_base ho22) hb); replace BK101 := kb BK101 hb; replace HB := Aside0.mk (below_step bh hb); clear hb ho22; obtain ⟨Ao23, co23, eo23⟩ := Kd.R_slice HO116.out; subst eo23))
   go_loopg [12, 13] kj4 (fun kq v12 v13 w' => ∃ (x12_2 : List (S29)) (x13_2 : Int), v13 = .int .i64 x13_2 ∧ Aside0 (cracknellaw04_ShapePick.l0 kq t109 t110 t111 t112 t113 t114 x12_2 x13_2 = some r) ∧ Aside0 (kq ≤ kj4) ∧ Aside0 (Kd.R k29 29 w' w.heap.size (fun k_ => some k_ ≠ (v12 : Value).ownBlock ∧ k_ ≠ gb101) (.slice Ao23 t114.length co23) t114) ∧ Aside0 (Kd.R k29 29 w' w.heap.size (fun k_ => some k_ ≠ ((.slice Ao23 t114.length co23) : Value).ownBlock ∧ k_ ≠ gb101) v12 x12_2) ∧ Aside0 (w'.heap[gb101]? = some (.cells #[.int .i64 (Int.tmod a1_0 6001), .int .i64 (Int.tmod a1_1 6001)] 29 (0, 0))) ∧ Aside0 (Below w.heap.size w w'))
   case atStart => exact ⟨(y117), (wrap64 ((t114.length : Int) - 1)), sd, H', ⟨Nat.le_refl _⟩, ⟨by (with_reducible repeat (first | apply Kd.R_alloc | apply Kd.R_drewN | apply Kd.R_drew)); exact Kd.R_mono HO116.out (fun _ hk => ⟨hk.2, hk.1.2⟩)⟩, ⟨by (with_reducible repeat (first | apply Kd.R_alloc | apply Kd.R_drewN | apply Kd.R_drew)); exact Kd.R_mono HO119.out (fun _ hk => ⟨hk.1.2, hk.2⟩)⟩, ⟨bk BK101⟩, ⟨bh⟩⟩
   case round =>
    clear H'
    (try clear c1); (try clear c2); (try clear p2); (try clear c4); (try clear p6); (try clear c10); (try clear c21); (try clear c22); (try clear c23); (try clear hcz19_0); (try clear hcz19_1); (try clear hfz19_0); (try clear hfz19_1); (try clear p2)
    obtain ⟨x12_2, x13_2, rfl, HA, HK2, HO_11, HO_12, BK101, HB⟩ := hrel
    cases gk with
    | zero => exact absurd HA.out (by simp [cracknellaw04_ShapePick.l0])
    | succ k2 =>
     have H := HA.out
     clear HA
     simp only [cracknellaw04_ShapePick.l0] at H
     by_cases c24 : x13_2 ≥ 0
     ·rw [if_pos c24] at H
      have c24b0 := decide_eq_true c24
      clear c24
      replace H := oi H
      obtain ⟨c25, H⟩ := H
      have c25b0 := decide_eq_true c25
      clear c25
      replace H := oi H
      obtain ⟨c26, H⟩ := H
      have c26b0 := decide_eq_true c26
      clear c26
      replace H := oi H
      obtain ⟨c27, H⟩ := H
      have LMc27 := Aside0.mk c27
      clear c27
      obtain ⟨y121, hy121⟩ : ∃ y_ : List (S29), y_ = (x12_2 ++ [(⟨(rd_T29 t114 x13_2).f0, (rd_T29 t114 x13_2).f1⟩ : S29)]) := ⟨_, rfl⟩
      replace H : (cracknellaw04_ShapePick.l0 k2 t109 t110 t111 t112 t113 t114 y121 (wrap64 (x13_2 - 1))) = some r := by first | (rw [hy121]; with_reducible exact H) | (have H2_ := (Option.bind_some _ _).symm.trans H; rw [hy121]; with_reducible exact H2_) | (have H2_ := (Option.bind_some _ _).symm.trans H; with_reducible exact H2_) | with_reducible exact H | (rw [hy121]; exact H) | exact H
      have Ny121 := Aside0.mk hy121
      clear hy121
      have H' := Aside0.mk H
      clear H
      have p120 : 0 ≤ (x13_2 : Int) := dt
      have q120 : x13_2 < (t114.length : Int) := dt
      obtain ⟨ad120, e120, hx120_0, hx120_1⟩ := at_T29 (Kd.R_reads' HO_11.out).2.2 x13_2 p120 q120
      cases e120
      replace p120 := eq_true p120
      replace q120 := eq_true q120
      go_wp2_with (first | ((with_reducible refine gate_builtin (b := .append) (xs := #[.tmp 55, .tmp 60]) rfl ?_); (try (refine gate_guard (by rfl) ?_; dsimp only)); at_builtin; refine Kd.R_append k29 (w0 := w) w.heap.size rfl (.tmp 55) (.tmp 60) 22 29 (.agg #[(.int .i64 0), (.int .i64 0)]) 16 rfl Try.underlying22 info29 rfl (by decide) (by omega) u12 x12_2 (⟨(rd_T29 t114 x13_2).f0, (rd_T29 t114 x13_2).f1⟩ : S29) [.int .i64 ((rd_T29 t114 x13_2).f0), .int .i64 ((rd_T29 t114 x13_2).f1)] (fun k_ => some k_ ≠ (.slice (some ad120) t114.length co23 : Value).ownBlock ∧ k_ ≠ gb101) (fun _ => False) rfl rfl ?aP (fun _ hk => hk.elim) ?aF ?aO ?aB ?aS ?aL ?_; (case aP => exact k29_mkM _ _ _ (⟨(rd_T29 t114 x13_2).f0, (rd_T29 t114 x13_2).f1⟩ : S29)); (case aB => exact bh); (case aF => exact (fun k_ hk => ⟨Kd.fresh' (Kd.R_lt (ro HO_11)) k_ hk, Kd.freshB (g := gb101) (o := .cells #[.int .i64 (Int.tmod a1_0 6001), .int .i64 (Int.tmod a1_1 6001)] 29 (0, 0)) (bk BK101) k_ hk⟩)); (case aO => exact (ro HO_12)); (case aS => exact (below_size bh)); (case aL => have := LMc27.out; omega); intro v122 w28 ho hb hg hat; rw [← Ny121.out] at ho; have HO123 := Aside0.mk (ho); replace HO_11 := Aside0.mk (Kd.R_after (ok := (fun k_ => k_ ≠ gb101)) (by (with_reducible repeat (first | apply Kd.R_alloc | apply Kd.R_drewN | apply Kd.R_drew)); exact Kd.R_mono HO_11.out (fun _ hk => ⟨hk.2, hk.1⟩)) hg hat); replace BK101 := Aside0.mk (blk_grown (g := gb101) (o := .cells #[.int .i64 (Int.tmod a1_0 6001), .int .i64 (Int.tmod a1_1 6001)] 29 (0, 0)) (bk BK101) hg (Kd.R_away HO_12.out (fun _ hk => hk.2))); replace HB := Aside0.mk (hb); clear HO_12; clear ho hb hg hat))
      go_roundg k2
      case measure => have := HJ4.out; have := HK2.out; omega
      case rel => exact ⟨(y121), (wrap64 (x13_2 - 1)), sd, H', ⟨by have := HJ4.out; have := HK2.out; omega⟩, ⟨by (with_reducible repeat (first | apply Kd.R_alloc | apply Kd.R_drewN | apply Kd.R_drew)); exact Kd.R_mono HO_11.out (fun _ hk => ⟨hk.2, hk.1⟩)⟩, ⟨by (with_reducible repeat (first | apply Kd.R_alloc | apply Kd.R_drewN | apply Kd.R_drew)); exact HO123.out⟩, ⟨bk BK101⟩, ⟨bh⟩⟩
     ·rw [if_neg c24] at H
      have c24b0 := decide_eq_false c24
      clear c24
      replace H := Option.bind_eq_some_iff.mp H
      obtain ⟨⟨t124, t125⟩, A290, H⟩ := H
      try dsimp only at H
      have A29 := Aside0.mk A290
      clear A290
      replace H := Option.bind_eq_some_iff.mp H
      obtain ⟨⟨t126, t127, t128⟩, A300, H⟩ := H
      try dsimp only at H
      have A30 := Aside0.mk A300
      clear A300
      by_cases c31 : t110 = 0
      ·rw [if_pos c31] at H
       have c31b0 : (t110 == 0) = true := beq_iff_eq.mpr c31
       have c31b1 : (t110 != 0) = false := bne_eq_false_iff_eq.mpr c31
       clear c31
       by_cases c32 : t113 = 0
       ·rw [if_pos c32] at H
        have c32b0 : (t113 == 0) = true := beq_iff_eq.mpr c32
        have c32b1 : (t113 != 0) = false := bne_eq_false_iff_eq.mpr c32
        clear c32
        by_cases c33 : t125 = 0
        ·rw [if_pos c33] at H
         have c33b0 : (t125 == 0) = true := beq_iff_eq.mpr c33
         have c33b1 : (t125 != 0) = false := bne_eq_false_iff_eq.mpr c33
         clear c33
         by_cases c34 : t128 = 0
         ·rw [if_pos c34] at H
          have c34b0 : (t128 == 0) = true := beq_iff_eq.mpr c34
          have c34b1 : (t128 != 0) = false := bne_eq_false_iff_eq.mpr c34
          clear c34
          obtain ⟨ji35, hji35⟩ : ∃ j_ : Int, (mx t109 (wrap64 (-t109))) = j_ := ⟨_, rfl⟩
          first | rw [hji35] at H | simp only [hji35] at H
          (try rw [hji35] at A29)
          (try rw [hji35] at A30)
          have hji35_ : (if t109 < (wrap64 (-t109)) then (wrap64 (-t109)) else t109) = ji35 := hji35
          by_cases c36 : (ji35) = (wrap64 ((wrap64 ((wrap64 (2 * t111)) + t112)) - 2))
          ·rw [if_pos c36] at H
           have c36b0 : ((ji35) == (wrap64 ((wrap64 ((wrap64 (2 * t111)) + t112)) - 2))) = true := beq_iff_eq.mpr c36
           have c36b1 : ((ji35) != (wrap64 ((wrap64 ((wrap64 (2 * t111)) + t112)) - 2))) = false := bne_eq_false_iff_eq.mpr c36
           clear c36
           by_cases c37 : t124 = (wrap64 (-t109))
           ·rw [if_pos c37] at H
            have c37b0 : (t124 == (wrap64 (-t109))) = true := beq_iff_eq.mpr c37
            have c37b1 : (t124 != (wrap64 (-t109))) = false := bne_eq_false_iff_eq.mpr c37
            clear c37
            by_cases c38 : t111 = t126
            ·rw [if_pos c38] at H
             have c38b0 : (t111 == t126) = true := beq_iff_eq.mpr c38
             have c38b1 : (t111 != t126) = false := bne_eq_false_iff_eq.mpr c38
             clear c38
             by_cases c39 : t112 = t127
             ·rw [if_pos c39] at H
              have c39b0 : (t112 == t127) = true := beq_iff_eq.mpr c39
              have c39b1 : (t112 != t127) = false := bne_eq_false_iff_eq.mpr c39
              clear c39
              replace H := Option.bind_eq_some_iff.mp H
              obtain ⟨t129, A400, H⟩ := H
              try dsimp only at H
              have A40 := Aside0.mk A400
              clear A400
              obtain rfl := Option.some.inj H
              obtain ⟨Ao41, co41, eo41⟩ := Kd.R_slice HO_12.out
              subst eo41
              go_wp2_with (first | ((with_reducible refine gc 24 rfl ?_); refine goesL_ (some 64) rfl rfl Try.func24 (by kernel_rfl) rfl #[.slice Ao41 x12_2.length co41] rfl sg ?_; (with_reducible refine (shape_Area2.calls k2 _ _ x12_2 t124 t125 _ ?side1 ?side2 A29.out).mono ?_); (case side1 => exact cs (Kd.R_reads' HO_12.out).2.2); (case side2 => exact (Kd.R_reads' HO_12.out).2.1); rintro e w42 ⟨rfl, hb⟩; refine ⟨_, rfl, ?_⟩; replace HO_11 := Aside0.mk (Kd.R_below (ro HO_11) hb); replace HO_12 := Aside0.mk (Kd.R_below (ro HO_12) hb); replace BK101 := kb BK101 hb; replace HB := Aside0.mk (below_step bh hb); (try clear hb); (try clear hb2); (try clear hk); (try clear hi)) | ((with_reducible refine gc 25 rfl ?_); refine goesL_ (some 69) rfl rfl Try.func25 (by kernel_rfl) rfl #[.slice Ao41 x12_2.length co41] rfl sg ?_; (with_reducible refine (shape_Lattice.calls k2 _ _ x12_2 t126 t127 t128 _ ?side1 ?side2 A30.out).mono ?_); (case side1 => exact cs (Kd.R_reads' HO_12.out).2.2); (case side2 => exact (Kd.R_reads' HO_12.out).2.1); rintro e w43 ⟨rfl, hb⟩; refine ⟨_, rfl, ?_⟩; replace HO_11 := Aside0.mk (Kd.R_below (ro HO_11) hb); replace HO_12 := Aside0.mk (Kd.R_below (ro HO_12) hb); replace BK101 := kb BK101 hb; replace HB := Aside0.mk (below_step bh hb); (try clear hb); (try clear hb2); (try clear hk); (try clear hi)) | (go_at_call 18; (with_reducible refine (cracknellaw04_lives.calls k2  t129 _ A40.out hr).mono ?_); rintro e w44 ⟨rfl, hb⟩; replace HO_11 := Aside0.mk (Kd.R_below (ro HO_11) hb); replace HO_12 := Aside0.mk (Kd.R_below (ro HO_12) hb); replace BK101 := kb BK101 hb; replace HB := Aside0.mk (below_step bh hb); (try clear hb); (try clear hb2); (try clear hk); (try clear hi)))
              go_ret
              exact ⟨by first | rfl | (simp [errW_none, errW_some] <;> rfl) | (simp only [← hji35]; first | rfl | (simp [errW_none, errW_some] <;> rfl)) | (simp [*, errW_none, errW_some] <;> rfl), bh⟩
             ·rw [if_neg c39] at H
              have c39b0 : (t112 == t127) = false := beq_eq_false_iff_ne.mpr c39
              have c39b1 : (t112 != t127) = true := bne_iff_ne.mpr c39
              obtain rfl := Option.some.inj H
              cases hr
            ·rw [if_neg c38] at H
             have c38b0 : (t111 == t126) = false := beq_eq_false_iff_ne.mpr c38
             have c38b1 : (t111 != t126) = true := bne_iff_ne.mpr c38
             obtain rfl := Option.some.inj H
             cases hr
           ·rw [if_neg c37] at H
            have c37b0 : (t124 == (wrap64 (-t109))) = false := beq_eq_false_iff_ne.mpr c37
            have c37b1 : (t124 != (wrap64 (-t109))) = true := bne_iff_ne.mpr c37
            obtain rfl := Option.some.inj H
            cases hr
          ·rw [if_neg c36] at H
           have c36b0 : ((ji35) == (wrap64 ((wrap64 ((wrap64 (2 * t111)) + t112)) - 2))) = false := beq_eq_false_iff_ne.mpr c36
           have c36b1 : ((ji35) != (wrap64 ((wrap64 ((wrap64 (2 * t111)) + t112)) - 2))) = true := bne_iff_ne.mpr c36
           obtain rfl := Option.some.inj H
           cases hr
         ·rw [if_neg c34] at H
          have c34b0 : (t128 == 0) = false := beq_eq_false_iff_ne.mpr c34
          have c34b1 : (t128 != 0) = true := bne_iff_ne.mpr c34
          obtain rfl := Option.some.inj H
          cases hr
        ·rw [if_neg c33] at H
         have c33b0 : (t125 == 0) = false := beq_eq_false_iff_ne.mpr c33
         have c33b1 : (t125 != 0) = true := bne_iff_ne.mpr c33
         obtain rfl := Option.some.inj H
         cases hr
       ·rw [if_neg c32] at H
        have c32b0 : (t113 == 0) = false := beq_eq_false_iff_ne.mpr c32
        have c32b1 : (t113 != 0) = true := bne_iff_ne.mpr c32
        obtain rfl := Option.some.inj H
        cases hr
      ·rw [if_neg c31] at H
       have c31b0 : (t110 == 0) = false := beq_eq_false_iff_ne.mpr c31
       have c31b1 : (t110 != 0) = true := bne_iff_ne.mpr c31
       obtain rfl := Option.some.inj H
       cases hr
end Go.Proofs.Ytoffmpkgickfhaa.PG
end
section
namespace Go.Proofs.Ytoffmpkgickfhaa.M
open Go.Proofs.Ytoffmpkgickfhaa.PG
abbrev Pt := S29
instance decS29 : DecidableEq S29 := fun a b => if h : a.f0 = b.f0 ∧ a.f1 = b.f1 then isTrue (by cases a; cases b; simp_all) else isFalse (by intro e; exact h (by rw [e]; exact ⟨rfl, rfl⟩))
def cr (a b c : Pt) : Int := (b.f0-a.f0)*(c.f1-a.f1) - (c.f0-a.f0)*(b.f1-a.f1)
def btw (a b p : Pt) : Prop := min a.f0 b.f0 ≤ p.f0 ∧ p.f0 ≤ max a.f0 b.f0 ∧ min a.f1 b.f1 ≤ p.f1 ∧ p.f1 ≤ max a.f1 b.f1
theorem pt_ext {a b : Pt} (h0 : a.f0 = b.f0) (h1 : a.f1 = b.f1) : a = b := by
 cases a; cases b; simp_all
theorem cr_swap (a b c : Pt) : cr a c b = -(cr a b c) := by unfold cr; grind
theorem cr_rot (a b c : Pt) : cr b c a = cr a b c := by unfold cr; grind
theorem cr_self1 (a b : Pt) : cr a b a = 0 := by unfold cr; grind
theorem cr_self2 (a b : Pt) : cr a b b = 0 := by unfold cr; grind
def HE (S : List Pt) (a b : Pt) : Prop := a ≠ b ∧ a ∈ S ∧ b ∈ S ∧ ∀ p ∈ S, 0 ≤ cr a b p ∧ (cr a b p = 0 → btw a b p)
theorem btw_eq {a b c : Pt} (h1 : btw a b c) (h2 : btw a c b) : b = c := by
 unfold btw at h1 h2
 apply pt_ext <;> omega
theorem btw_eq' {a b c : Pt} (h1 : btw a c b) (h2 : btw b c a) : a = b := by
 unfold btw at h1 h2
 apply pt_ext <;> omega
theorem he_pred {S : List Pt} {a b c : Pt} (h1 : HE S a c) (h2 : HE S b c) : a = b := by
 obtain ⟨_, ha, _, hA⟩ := h1
 obtain ⟨_, hb, _, hB⟩ := h2
 have h3 := hA b hb
 have h4 := hB a ha
 have h5 : cr b c a = -(cr a c b) := by unfold cr; grind
 exact btw_eq' (h3.2 (by omega)) (h4.2 (by omega))
def fn (p q : Int) (a b : Pt) : Int := p * (b.f0 - a.f0) + q * (b.f1 - a.f1)
theorem pos_of_mul {a b : Int} (ha : 0 < a) (h : 0 < a * b) : 0 < b := by
 rcases Int.lt_trichotomy b 0 with h1 | h1 | h1
 ·have := Int.mul_neg_of_pos_of_neg ha h1; omega
 ·subst h1; simp at h
 ·exact h1
theorem nonneg_of_mul {a b : Int} (ha : 0 < a) (h : 0 ≤ a * b) : 0 ≤ b := by
 rcases Int.lt_trichotomy b 0 with h1 | h1 | h1
 ·have := Int.mul_neg_of_pos_of_neg ha h1; omega
 ·omega
 ·omega
theorem tr {p q : Int} {o u v w : Pt} (hu : 0 < fn p q o u) (hv : 0 < fn p q o v) (hw : 0 < fn p q o w)
  (h1 : 0 ≤ cr o u v) (h2 : 0 ≤ cr o v w) : 0 ≤ cr o u w ∧ (0 < cr o u v ∨ 0 < cr o v w → 0 < cr o u w) := by
 have e : fn p q o v * cr o u w = fn p q o u * cr o v w + fn p q o w * cr o u v := by unfold fn cr; grind
 have a1 := Int.mul_nonneg (Int.le_of_lt hu) h2
 have a2 := Int.mul_nonneg (Int.le_of_lt hw) h1
 constructor
 ·exact nonneg_of_mul hv (by omega)
 ·intro h
  apply pos_of_mul hv
  rcases h with h | h
  ·have := Int.mul_pos hw h; omega
  ·have := Int.mul_pos hu h; omega
theorem le_of_mul_le {a b c : Int} (ha : 0 < a) (h : a * b ≤ a * c) : b ≤ c := Int.le_of_mul_le_mul_left h ha
theorem btw_of_fn {p q : Int} {a b c : Pt} (hb : 0 < fn p q a b) (h0 : 0 ≤ fn p q a c) (h1 : fn p q a c ≤ fn p q a b) (h : cr a b c = 0) : btw a b c := by
 have e0 : fn p q a b * (c.f0 - a.f0) = fn p q a c * (b.f0 - a.f0) := by unfold fn; unfold cr at h; grind
 have e1 : fn p q a b * (c.f1 - a.f1) = fn p q a c * (b.f1 - a.f1) := by unfold fn; unfold cr at h; grind
 have key : ∀ x y : Int, fn p q a b * x = fn p q a c * y → (0 ≤ y → 0 ≤ x ∧ x ≤ y) ∧ (y ≤ 0 → y ≤ x ∧ x ≤ 0) := by
  intro x y e
  constructor
  ·intro hy
   have m1 := Int.mul_nonneg h0 hy
   have m2 := Int.mul_le_mul_of_nonneg_right h1 hy
   exact ⟨nonneg_of_mul hb (by omega), le_of_mul_le hb (by omega)⟩
  ·intro hy
   have m1 := Int.mul_nonneg h0 (show 0 ≤ -y by omega)
   have m2 := Int.mul_le_mul_of_nonneg_right h1 (show 0 ≤ -y by omega)
   rw [Int.mul_neg] at m1 m2
   rw [Int.mul_neg] at m2
   exact ⟨le_of_mul_le hb (by omega), le_of_mul_le hb (by omega)⟩
 have k0 := key _ _ e0
 have k1 := key _ _ e1
 unfold btw
 omega
theorem fn_btw_le {p q : Int} {a b c : Pt} (h : btw a b c) (hc : cr a b c = 0) (hb : 0 < fn p q a b) : 0 ≤ fn p q a c ∧ fn p q a c ≤ fn p q a b := by
 unfold btw at h
 have e0 : fn p q a b * (c.f0 - a.f0) = fn p q a c * (b.f0 - a.f0) := by unfold fn; unfold cr at hc; grind
 have e1 : fn p q a b * (c.f1 - a.f1) = fn p q a c * (b.f1 - a.f1) := by unfold fn; unfold cr at hc; grind
 have hne : b.f0 - a.f0 ≠ 0 ∨ b.f1 - a.f1 ≠ 0 := by
  rcases Int.decEq (b.f0 - a.f0) 0 with h | h
  ·exact .inl h
  ·rcases Int.decEq (b.f1 - a.f1) 0 with h' | h'
   ·exact .inr h'
   ·unfold fn at hb; rw [h, h'] at hb; simp at hb
 have key : ∀ x y : Int, fn p q a b * x = fn p q a c * y → y ≠ 0 → (0 ≤ y → 0 ≤ x ∧ x ≤ y) → (y ≤ 0 → y ≤ x ∧ x ≤ 0) → 0 ≤ fn p q a c ∧ fn p q a c ≤ fn p q a b := by
  intro x y e hy h1 h2
  rcases Int.lt_trichotomy y 0 with h3 | h3 | h3
  ·have h4 := h2 (by omega)
   have m1 := Int.mul_nonneg (Int.le_of_lt hb) (show 0 ≤ -x by omega)
   have m2 := Int.mul_nonneg (Int.le_of_lt hb) (show 0 ≤ x - y by omega)
   rw [Int.mul_neg] at m1
   rw [Int.mul_sub] at m2
   constructor
   ·apply nonneg_of_mul (show 0 < -y by omega)
    rw [Int.neg_mul, Int.mul_comm]; omega
   ·apply le_of_mul_le (show 0 < -y by omega)
    rw [Int.neg_mul, Int.neg_mul, Int.mul_comm y, Int.mul_comm y]; omega
  ·exact absurd h3 hy
  ·have h4 := h1 (by omega)
   have m1 := Int.mul_nonneg (Int.le_of_lt hb) (show 0 ≤ x by omega)
   have m2 := Int.mul_nonneg (Int.le_of_lt hb) (show 0 ≤ y - x by omega)
   rw [Int.mul_sub] at m2
   constructor
   ·apply nonneg_of_mul h3
    rw [Int.mul_comm]; omega
   ·apply le_of_mul_le h3
    rw [Int.mul_comm y, Int.mul_comm y]; omega
 rcases hne with h' | h'
 ·exact key _ _ e0 h' (by omega) (by omega)
 ·exact key _ _ e1 h' (by omega) (by omega)
def Pairs (R : Pt → Pt → Prop) : List Pt → Prop
 | [] => True
 | [_] => True
 | a :: b :: l => R a b ∧ Pairs R (b :: l)
theorem Pairs.mono {R R' : Pt → Pt → Prop} (h : ∀ a b, R a b → R' a b) : ∀ l, Pairs R l → Pairs R' l
 | [], _ => trivial
 | [_], _ => trivial
 | _ :: b :: l, ⟨h1, h2⟩ => ⟨h _ _ h1, Pairs.mono h (b :: l) h2⟩
theorem Pairs.append {R : Pt → Pt → Prop} {m : Pt} : ∀ (l l' : List Pt), Pairs R (l ++ [m]) → Pairs R (m :: l') → Pairs R (l ++ m :: l')
 | [], _, _, h => h
 | [_], _, ⟨h1, _⟩, h => ⟨h1, h⟩
 | _ :: b :: l, l', ⟨h1, h2⟩, h => ⟨h1, Pairs.append (b :: l) l' h2 h⟩
theorem Pairs.tail {R : Pt → Pt → Prop} {a : Pt} {l : List Pt} (h : Pairs R (a :: l)) : Pairs R l := by
 cases l with
 | nil => trivial
 | cons b l => exact h.2
theorem Pairs.left {R : Pt → Pt → Prop} : ∀ (l l' : List Pt), Pairs R (l ++ l') → Pairs R l
 | [], _, _ => trivial
 | [_], _, _ => trivial
 | _ :: b :: l, l', ⟨h1, h2⟩ => ⟨h1, Pairs.left (b :: l) l' h2⟩
theorem Pairs.right {R : Pt → Pt → Prop} : ∀ (l l' : List Pt), Pairs R (l ++ l') → Pairs R l'
 | [], _, h => h
 | _ :: l, l', h => Pairs.right l l' h.tail
theorem Pairs.at_ {R : Pt → Pt → Prop} {a b : Pt} {l l' : List Pt} (h : Pairs R (l ++ a :: b :: l')) : R a b := (Pairs.right l _ h).1
def Ring (S : List Pt) (h : List Pt) : Prop := ∃ a t, h = a :: t ∧ a ∉ t ∧ Pairs (HE S) (a :: (t ++ [a]))
instance (a b c : Pt) : Decidable (btw a b c) := by unfold btw; infer_instance
def wrapStep (o tq p : Pt) : Pt := if p = o then tq else if tq = o ∨ cr o tq p < 0 ∨ (cr o tq p = 0 ∧ cr o p tq = 0 ∧ btw o p tq) then p else tq
def wrap (S : List Pt) (o : Pt) : Pt := S.foldl (wrapStep o) o
def Found (T : List Pt) (o tq : Pt) : Prop := (tq = o ∧ ∀ t ∈ T, t = o) ∨ (tq ≠ o ∧ tq ∈ T ∧ ∀ t ∈ T, 0 ≤ cr o tq t ∧ (cr o tq t = 0 → btw o tq t))
theorem btw_end (o a : Pt) : btw o a a := by unfold btw; omega
theorem btw_start (o a : Pt) : btw o a o := by unfold btw; omega
theorem step_ok {p q : Int} {T : List Pt} {o tq x : Pt} (hT : ∀ t ∈ T ++ [x], t = o ∨ 0 < fn p q o t) (h : Found T o tq) : Found (T ++ [x]) o (wrapStep o tq x) := by
 unfold wrapStep
 split
 ·rename_i hx
  subst hx
  rcases h with ⟨rfl, h⟩ | ⟨h1, h2, h3⟩
  ·exact .inl ⟨rfl, by intro t ht; rcases List.mem_append.mp ht with ht | ht; exact h t ht; simpa using ht⟩
  ·refine .inr ⟨h1, by simp [h2], ?_⟩
   intro t ht
   rcases List.mem_append.mp ht with ht | ht
   ·exact h3 t ht
   ·simp at ht; subst ht; rw [cr_self1]; exact ⟨by omega, fun _ => btw_start _ _⟩
 ·rename_i hx
  have fx : 0 < fn p q o x := (hT x (by simp)).resolve_left hx
  rcases h with ⟨rfl, h⟩ | ⟨h1, h2, h3⟩
  ·rw [if_pos (.inl rfl)]
   refine .inr ⟨hx, by simp, ?_⟩
   intro t ht
   rcases List.mem_append.mp ht with ht | ht
   ·rw [h t ht, cr_self1]; exact ⟨by omega, fun _ => btw_start _ _⟩
   ·simp at ht; subst ht; rw [cr_self2]; exact ⟨by omega, fun _ => btw_end _ _⟩
  ·have ft : 0 < fn p q o tq := (hT tq (by simp [h2])).resolve_left h1
   split
   ·rename_i hc
    refine .inr ⟨hx, by simp, ?_⟩
    have h0 : 0 ≤ cr o x tq ∧ (cr o x tq = 0 → btw o x tq) := by
     rcases hc with hc | hc | hc
     ·exact absurd hc h1
     ·have := cr_swap o tq x; exact ⟨by omega, fun h => by omega⟩
     ·exact ⟨by omega, fun _ => hc.2.2⟩
    intro t ht
    rcases List.mem_append.mp ht with ht | ht
    ·rcases hT t (by simp [ht]) with rfl | hf
     ·rw [cr_self1]; exact ⟨by omega, fun _ => btw_start _ _⟩
     ·have := tr fx ft hf h0.1 (h3 t ht).1
      refine ⟨this.1, fun hz => ?_⟩
      have z1 : cr o x tq = 0 := by
       rcases Int.lt_trichotomy 0 (cr o x tq) with h5 | h5 | h5
       ·have := this.2 (.inl h5); omega
       ·exact h5.symm
       ·omega
      have z2 : cr o tq t = 0 := by
       rcases Int.lt_trichotomy 0 (cr o tq t) with h5 | h5 | h5
       ·have := this.2 (.inr h5); omega
       ·exact h5.symm
       ·have := (h3 t ht).1; omega
      have b1 := fn_btw_le (h0.2 z1) z1 fx
      have b2 := fn_btw_le ((h3 t ht).2 z2) z2 ft
      exact btw_of_fn fx b2.1 (by omega) hz
    ·simp at ht; subst ht; rw [cr_self2]; exact ⟨by omega, fun _ => btw_end _ _⟩
   ·rename_i hc
    refine .inr ⟨h1, by simp [h2], ?_⟩
    intro t ht
    rcases List.mem_append.mp ht with ht | ht
    ·exact h3 t ht
    ·simp at ht; subst ht
     have n1 : ¬ cr o tq t < 0 := fun h => hc (.inr (.inl h))
     refine ⟨by omega, fun hz => ?_⟩
     have n2 : ¬ btw o t tq := fun h => hc (.inr (.inr ⟨hz, by rw [cr_swap]; omega, h⟩))
     have hz' : cr o t tq = 0 := by rw [cr_swap]; omega
     by_cases hle : fn p q o t ≤ fn p q o tq
     ·exact btw_of_fn ft (Int.le_of_lt fx) hle hz
     ·exact absurd (btw_of_fn fx (Int.le_of_lt ft) (by omega) hz') n2
theorem wrap_ok {p q : Int} {S : List Pt} {o : Pt} (ho : o ∈ S) (hS : ∀ t ∈ S, t = o ∨ 0 < fn p q o t) (h2 : ∃ t ∈ S, t ≠ o) : HE S o (wrap S o) := by
 have H : ∀ (R T : List Pt) (tq : Pt), T ++ R = S → Found T o tq → Found S o (R.foldl (wrapStep o) tq) := by
  intro R
  induction R with
  | nil => intro T tq e h; rw [← e, List.append_nil]; exact h
  | cons x R ih =>
   intro T tq e h
   rw [List.foldl_cons]
   apply ih (T ++ [x]) _ (by rw [← e]; simp)
   apply step_ok (p := p) (q := q) _ h
   intro t ht
   apply hS
   rw [← e]
   rcases List.mem_append.mp ht with ht | ht
   ·simp [ht]
   ·simp at ht; simp [ht]
 have := H S [] o rfl (.inl ⟨rfl, by simp⟩)
 unfold wrap
 rcases this with ⟨_, h3⟩ | ⟨h3, h4, h5⟩
 ·obtain ⟨t, ht, hn⟩ := h2
  exact absurd (h3 t ht) hn
 ·exact ⟨fun e => h3 e.symm, ho, h4, h5⟩
def Corner (S : List Pt) (o : Pt) : Prop := ∃ p q, ∀ t ∈ S, t = o ∨ 0 < fn p q o t
theorem bounded (f : Pt → Int) : ∀ S : List Pt, ∃ B, ∀ t ∈ S, f t < B
 | [] => ⟨0, by simp⟩
 | a :: S => by
  obtain ⟨B, hB⟩ := bounded f S
  refine ⟨max B (f a + 1), ?_⟩
  intro t ht
  rcases List.mem_cons.mp ht with rfl | ht
  ·omega
  ·have := hB t ht; omega
theorem corner_of_he {S : List Pt} {a b : Pt} (h : HE S a b) : Corner S b := by
 obtain ⟨hab, ha, hb, hS⟩ := h
 let g : Pt → Int := fun t => (b.f0 - a.f0) * (t.f0 - b.f0) + (b.f1 - a.f1) * (t.f1 - b.f1)
 obtain ⟨B, hB⟩ := bounded g S
 have hB0 : 0 < B := by have := hB b hb; simp [g] at this; exact this
 refine ⟨B * -(b.f1 - a.f1) - (b.f0 - a.f0), B * (b.f0 - a.f0) - (b.f1 - a.f1), ?_⟩
 intro t ht
 by_cases e : t = b
 ·exact .inl e
 ·right
  have e1 : fn (B * -(b.f1 - a.f1) - (b.f0 - a.f0)) (B * (b.f0 - a.f0) - (b.f1 - a.f1)) b t = B * cr a b t - g t := by simp only [g, fn, cr]; grind
  rw [e1]
  have h1 := hS t ht
  have h2 := hB t ht
  rcases Int.lt_trichotomy 0 (cr a b t) with h3 | h3 | h3
  ·have := Int.mul_le_mul_of_nonneg_left (show 1 ≤ cr a b t by omega) (Int.le_of_lt hB0)
   omega
  ·rw [← h3]
   have hbt := h1.2 h3.symm
   have hc : cr a b t = 0 := h3.symm
   have : g t < 0 := by
    have k0 : (b.f0 - a.f0) * (t.f0 - b.f0) ≤ 0 := by
     unfold btw at hbt
     rcases Int.le_total a.f0 b.f0 with h5 | h5
     ·have := Int.mul_nonneg (show 0 ≤ b.f0 - a.f0 by omega) (show 0 ≤ b.f0 - t.f0 by omega); grind
     ·have := Int.mul_nonneg (show 0 ≤ a.f0 - b.f0 by omega) (show 0 ≤ t.f0 - b.f0 by omega); grind
    have k1 : (b.f1 - a.f1) * (t.f1 - b.f1) ≤ 0 := by
     unfold btw at hbt
     rcases Int.le_total a.f1 b.f1 with h5 | h5
     ·have := Int.mul_nonneg (show 0 ≤ b.f1 - a.f1 by omega) (show 0 ≤ b.f1 - t.f1 by omega); grind
     ·have := Int.mul_nonneg (show 0 ≤ a.f1 - b.f1 by omega) (show 0 ≤ t.f1 - b.f1 by omega); grind
    rcases Int.lt_trichotomy (g t) 0 with h5 | h5 | h5
    ·exact h5
    ·exfalso
     simp only [g] at h5
     have z0 : (b.f0 - a.f0) * (t.f0 - b.f0) = 0 := by omega
     have z1 : (b.f1 - a.f1) * (t.f1 - b.f1) = 0 := by omega
     have z2 : (b.f0 - a.f0) * (t.f1 - b.f1) = (b.f1 - a.f1) * (t.f0 - b.f0) := by unfold cr at hc; grind
     have hne : b.f0 - a.f0 ≠ 0 ∨ b.f1 - a.f1 ≠ 0 := by
      rcases Int.decEq (b.f0 - a.f0) 0 with y | y
      ·exact .inl y
      ·exact .inr fun y1 => hab (pt_ext (by omega) (by omega))
     have fin : t.f0 - b.f0 = 0 ∧ t.f1 - b.f1 = 0 := by
      rcases hne with y | y
      ·have w0 := (Int.mul_eq_zero.mp z0).resolve_left y
       rw [w0, Int.mul_zero] at z2
       exact ⟨w0, (Int.mul_eq_zero.mp z2).resolve_left y⟩
      ·have w0 := (Int.mul_eq_zero.mp z1).resolve_left y
       rw [w0, Int.mul_zero] at z2
       exact ⟨(Int.mul_eq_zero.mp z2.symm).resolve_left y, w0⟩
     exact e (pt_ext (by omega) (by omega))
    ·simp only [g] at h5; omega
   omega
  ·omega
def first (a b : Pt) : Prop := a.f1 < b.f1 ∨ (a.f1 = b.f1 ∧ a.f0 < b.f0)
instance (a b : Pt) : Decidable (first a b) := by unfold first; infer_instance
theorem corner_of_first {S : List Pt} {o : Pt} (h : ∀ t ∈ S, t = o ∨ first o t) : Corner S o := by
 obtain ⟨B, hB⟩ := bounded (fun t => o.f0 - t.f0) S
 refine ⟨1, max B 1, ?_⟩
 intro t ht
 rcases h t ht with h1 | h1
 ·exact .inl h1
 ·right
  have h2 := hB t ht
  unfold fn
  rcases h1 with h1 | h1
  ·have := Int.mul_le_mul_of_nonneg_left (show 1 ≤ t.f1 - o.f1 by omega) (show 0 ≤ max B 1 by omega)
   omega
  ·rw [show t.f1 - o.f1 = 0 by omega]; omega
def around (S : List Pt) : Nat → Pt → List Pt
 | 0, o => [o]
 | n + 1, o => o :: around S n (wrap S o)
theorem length_le_of_nodup {l S : List Pt} (hn : l.Nodup) (h : ∀ a ∈ l, a ∈ S) : l.length ≤ S.length := by
 induction l generalizing S with
 | nil => simp
 | cons a l ih =>
  have ha := h a (by simp)
  have h2 : ∀ b ∈ l, b ∈ S.erase a := by
   intro b hb
   have hne : b ≠ a := by rintro rfl; exact (List.nodup_cons.mp hn).1 hb
   exact (List.mem_erase_of_ne hne).2 (h b (by simp [hb]))
  have := ih (List.nodup_cons.mp hn).2 h2
  have hl := List.length_erase_of_mem ha
  have : 0 < S.length := List.length_pos_of_mem ha
  simp only [List.length_cons]; omega
theorem ring_around {S : List Pt} {o : Pt} (ho : o ∈ S) (hmin : ∀ t ∈ S, t = o ∨ first o t) (h2 : ∃ a b, a ∈ S ∧ b ∈ S ∧ a ≠ b) :
  ∃ n, n < S.length ∧ Ring S (around S n o) ∧ (∃ x, (around S n o).getLast? = some x ∧ wrap S x = o) ∧ (∀ m, m < n → ∃ x, (around S m o).getLast? = some x ∧ wrap S x ≠ o) := by
 have other : ∀ x ∈ S, ∃ t ∈ S, t ≠ x := by
  intro x _
  obtain ⟨a, b, ha, hb, hab⟩ := h2
  by_cases e : a = x
  ·exact ⟨b, hb, fun e' => hab (e.trans e'.symm)⟩
  ·exact ⟨a, ha, e⟩
 have step : ∀ x, x ∈ S → Corner S x → HE S x (wrap S x) := by
  intro x hx hc
  obtain ⟨p, q, h⟩ := hc
  exact wrap_ok hx h (other x hx)
 have snoc : ∀ n x, ∃ y, (around S n x).getLast? = some y ∧ around S (n + 1) x = around S n x ++ [wrap S y] := by
  intro n
  induction n with
  | zero => intro x; exact ⟨x, rfl, rfl⟩
  | succ n ih =>
   intro x
   obtain ⟨y, h1, h2⟩ := ih (wrap S x)
   refine ⟨y, ?_, ?_⟩
   ·rw [around, List.getLast?_cons, h1]; rfl
   ·rw [around, h2]; rfl
 have pairs : ∀ n x, x ∈ S → Corner S x → Pairs (HE S) (around S n x) ∧ (∀ y ∈ around S n x, y ∈ S ∧ Corner S y) := by
  intro n
  induction n with
  | zero => intro x hx hc; exact ⟨trivial, by intro y hy; simp [around] at hy; subst hy; exact ⟨hx, hc⟩⟩
  | succ n ih =>
   intro x hx hc
   have he := step x hx hc
   obtain ⟨h1, h2⟩ := ih (wrap S x) he.2.2.1 (corner_of_he he)
   refine ⟨?_, ?_⟩
   ·cases n with
    | zero => exact ⟨he, trivial⟩
    | succ n => exact ⟨he, h1⟩
   ·intro y hy
    rw [around] at hy
    rcases List.mem_cons.mp hy with rfl | hy
    ·exact ⟨hx, hc⟩
    ·exact h2 y hy
 have hco := corner_of_first hmin
 have nodup : ∀ n, (∀ m, m < n → ∃ x, (around S m o).getLast? = some x ∧ wrap S x ≠ o) → (around S n o).Nodup ∧ o ∉ (around S n o).tail := by
  intro n
  induction n with
  | zero => intro _; simp [around]
  | succ n ih =>
   intro h
   obtain ⟨h1, h2⟩ := ih (fun m hm => h m (by omega))
   obtain ⟨y, e1, e2⟩ := snoc n o
   obtain ⟨y', e1', hn⟩ := h n (by omega)
   obtain rfl : y = y' := by rw [e1] at e1'; simpa using e1'
   have hy : y ∈ around S n o := List.mem_of_getLast? e1
   have hP := (pairs n o ho hco).1
   have hS := (pairs n o ho hco).2 y hy
   have hey := step y hS.1 hS.2
   rw [e2]
   obtain ⟨t, et⟩ : ∃ t, around S n o = o :: t := by cases n <;> exact ⟨_, rfl⟩
   rw [et] at h1 h2 e1 hy hP ⊢
   have hnot : wrap S y ∉ o :: t := by
    intro hm
    rcases List.mem_cons.mp hm with hm | hm
    ·exact hn hm
    ·-- it has one before it, which is y: but y is the last
     obtain ⟨l1, l2, el⟩ := List.append_of_mem hm
     have el' : o :: t = (o :: l1) ++ wrap S y :: l2 := by rw [el]; rfl
     obtain ⟨l0, z, ez⟩ : ∃ l0 z, o :: l1 = l0 ++ [z] := ⟨(o :: l1).dropLast, (o :: l1).getLast (by simp), (List.dropLast_concat_getLast (by simp)).symm⟩
     rw [el', ez, List.append_assoc] at hP
     have hz : HE S z (wrap S y) := Pairs.at_ hP
     have hzy := he_pred hz hey
     subst hzy
     rw [el', ez] at h1 e1
     rw [List.nodup_append] at h1
     have e3 : (wrap S z :: l2).getLast? = some z := by
      rw [List.getLast?_append, List.getLast?_eq_some_getLast (by simp : wrap S z :: l2 ≠ []), Option.some_or] at e1
      rw [List.getLast?_eq_some_getLast (by simp : wrap S z :: l2 ≠ [])]
      exact e1
     exact h1.2.2 z (by simp) z (List.mem_of_getLast? e3) rfl
   refine ⟨?_, ?_⟩
   ·rw [List.nodup_append]
    refine ⟨h1, by simp, ?_⟩
    intro a ha b hb e
    simp at hb
    subst hb; subst e
    exact hnot ha
   ·simp only [List.cons_append, List.tail_cons] at h2 ⊢
    intro hm
    rcases List.mem_append.mp hm with hm | hm
    ·exact h2 hm
    ·simp at hm; exact hn hm.symm
 have len : ∀ n x, (around S n x).length = n + 1 := by
  intro n
  induction n with
  | zero => intro x; rfl
  | succ n ih => intro x; simp [around, ih]
 have ex : ∃ n, n < S.length ∧ (∃ x, (around S n o).getLast? = some x ∧ wrap S x = o) ∧ (∀ m, m < n → ∃ x, (around S m o).getLast? = some x ∧ wrap S x ≠ o) := by
  apply Classical.byContradiction
  intro hno
  have all : ∀ n, n ≤ S.length → ∀ m, m < n → ∃ x, (around S m o).getLast? = some x ∧ wrap S x ≠ o := by
   intro n
   induction n with
   | zero => intro _ m hm; omega
   | succ n ih =>
    intro hn m hm
    have hb := ih (by omega)
    by_cases e : m < n
    ·exact hb m e
    ·obtain rfl : m = n := by omega
     obtain ⟨y, e1, _⟩ := snoc m o
     by_cases hw : wrap S y = o
     ·exact absurd ⟨m, by omega, ⟨y, e1, hw⟩, hb⟩ hno
     ·exact ⟨y, e1, hw⟩
  have h1 := (nodup S.length (all _ (Nat.le_refl _))).1
  have := length_le_of_nodup h1 (fun a ha => ((pairs S.length o ho hco).2 a ha).1)
  rw [len] at this
  omega
 obtain ⟨n, hn, ⟨x, e1, hw⟩, hm⟩ := ex
 refine ⟨n, hn, ?_, ⟨x, e1, hw⟩, hm⟩
 obtain ⟨h1, h2⟩ := nodup n hm
 obtain ⟨t, et⟩ : ∃ t, around S n o = o :: t := by cases n <;> exact ⟨_, rfl⟩
 have hP := (pairs n o ho hco).1
 have hx := (pairs n o ho hco).2 x (List.mem_of_getLast? e1)
 have he := step x hx.1 hx.2
 rw [hw] at he
 rw [et] at h2 e1 hP ⊢
 refine ⟨o, t, rfl, h2, ?_⟩
 obtain ⟨l0, z, ez⟩ : ∃ l0 z, o :: t = l0 ++ [z] := ⟨(o :: t).dropLast, (o :: t).getLast (by simp), (List.dropLast_concat_getLast (by simp)).symm⟩
 have : z = x := by rw [ez, List.getLast?_concat] at e1; simpa using e1
 subst this
 rw [← List.cons_append, ez, List.append_assoc]
 rw [ez] at hP
 exact Pairs.append l0 [o] hP ⟨he, trivial⟩
def at_ (h : List Pt) (i : Nat) : Pt := h.getD i ⟨0, 0⟩
theorem at_eq {h : List Pt} {i : Nat} (hi : i < h.length) : at_ h i = h[i] := by
 unfold at_; rw [List.getD_eq_getElem?_getD, List.getElem?_eq_getElem hi]; rfl
theorem at_mem {h : List Pt} {i : Nat} (hi : i < h.length) : at_ h i ∈ h := by
 rw [at_eq hi]; exact List.getElem_mem hi
theorem pairs_at {R : Pt → Pt → Prop} : ∀ (l : List Pt), Pairs R l → ∀ i, i + 1 < l.length → R (at_ l i) (at_ l (i + 1))
 | a :: b :: l, h, 0, _ => h.1
 | a :: b :: l, h, i + 1, hi => pairs_at (b :: l) h.2 i (by simpa using hi)
 | [_], _, _, hi => by simp at hi
 | [], _, _, hi => by simp at hi
theorem ring_at {S h : List Pt} (r : Ring S h) : ∀ i, i < h.length → HE S (at_ h i) (at_ h ((i + 1) % h.length)) := by
 obtain ⟨a, t, rfl, _, hp⟩ := r
 intro i hi
 have h1 := pairs_at _ hp i (by simpa using hi)
 have e1 : at_ (a :: (t ++ [a])) i = at_ (a :: t) i := by
  unfold at_; rw [List.getD_eq_getElem?_getD, List.getD_eq_getElem?_getD, ← List.cons_append, List.getElem?_append_left hi]
 have e2 : at_ (a :: (t ++ [a])) (i + 1) = at_ (a :: t) ((i + 1) % (a :: t).length) := by
  by_cases e : i + 1 = (a :: t).length
  ·rw [e, Nat.mod_self]; unfold at_; rw [List.getD_eq_getElem?_getD, ← List.cons_append, List.getElem?_append_right (by simp)]; simp
  ·have : i + 1 < (a :: t).length := by omega
   rw [Nat.mod_eq_of_lt this]
   unfold at_; rw [List.getD_eq_getElem?_getD, List.getD_eq_getElem?_getD, ← List.cons_append, List.getElem?_append_left this]
 rw [e1, e2] at h1
 exact h1
theorem ring_inj {S h : List Pt} (r : Ring S h) : ∀ i j, i < h.length → j < h.length → at_ h i = at_ h j → i = j := by
 have hr := ring_at r
 have h0 : ∀ j, 0 < j → j < h.length → at_ h 0 ≠ at_ h j := by
  obtain ⟨a, t, rfl, ha, _⟩ := r
  intro j hj hl e
  apply ha
  have : at_ (a :: t) j ∈ t := by
   match j, hj with
   | j + 1, _ => rw [at_eq hl]; simp
  rw [← e] at this
  exact this
 have back : ∀ i j, i < j → j < h.length → at_ h i ≠ at_ h j := by
  intro i
  induction i with
  | zero => exact fun j hj hl => h0 j hj hl
  | succ i ih =>
   intro j hj hl e
   have a1 := hr i (by omega)
   have a2 := hr (j - 1) (by omega)
   rw [Nat.mod_eq_of_lt (by omega)] at a1
   rw [show j - 1 + 1 = j by omega, Nat.mod_eq_of_lt hl, ← e] at a2
   exact ih (j - 1) (by omega) (by omega) (he_pred a1 a2)
 intro i j hi hj e
 rcases Nat.lt_trichotomy i j with h1 | h1 | h1
 ·exact absurd e (back i j h1 hj)
 ·exact h1
 ·exact absurd e.symm (back j i h1 hi)
theorem ring_corner {S h : List Pt} (r : Ring S h) : ∀ i, i < h.length → Corner S (at_ h i) ∧ at_ h i ∈ S := by
 intro i hi
 have hr := ring_at r
 rcases Nat.eq_zero_or_pos i with rfl | h0
 ·have := hr (h.length - 1) (by omega)
  rw [show h.length - 1 + 1 = h.length by omega, Nat.mod_self] at this
  exact ⟨corner_of_he this, this.2.2.1⟩
 ·have := hr (i - 1) (by omega)
  rw [show i - 1 + 1 = i by omega, Nat.mod_eq_of_lt hi] at this
  exact ⟨corner_of_he this, this.2.2.1⟩
theorem corner_not_between {S : List Pt} {v a b : Pt} (hv : Corner S v) (ha : a ∈ S) (hb : b ∈ S) (hab : a ≠ b) (hc : cr a b v = 0) (hbt : btw a b v) : v = a ∨ v = b := by
 obtain ⟨p, q, hF⟩ := hv
 rcases hF a ha with h1 | h1
 ·exact .inl h1.symm
 ·rcases hF b hb with h2 | h2
  ·exact .inr h2.symm
  ·exfalso
   have e0 : (v.f0 - a.f0) * fn p q v b + (b.f0 - v.f0) * fn p q v a = 0 := by unfold fn; unfold cr at hc; grind
   have e1 : (v.f1 - a.f1) * fn p q v b + (b.f1 - v.f1) * fn p q v a = 0 := by unfold fn; unfold cr at hc; grind
   have key : ∀ x y z : Int, (v.f0 = v.f0) → (min x z ≤ y ∧ y ≤ max x z) → (y - x) * fn p q v b + (z - y) * fn p q v a = 0 → x = z := by
    intro x y z _ hb e
    rcases Int.lt_trichotomy x z with h | h | h
    ·have m1 := Int.mul_nonneg (show 0 ≤ y - x by omega) (Int.le_of_lt h2)
     have m2 := Int.mul_nonneg (show 0 ≤ z - y by omega) (Int.le_of_lt h1)
     have k1 : (y - x) * fn p q v b = 0 := by omega
     have k2 : (z - y) * fn p q v a = 0 := by omega
     rcases Int.mul_eq_zero.mp k1 with k | k <;> rcases Int.mul_eq_zero.mp k2 with k' | k' <;> omega
    ·exact h
    ·have m1 := Int.mul_nonneg (show 0 ≤ x - y by omega) (Int.le_of_lt h2)
     have m2 := Int.mul_nonneg (show 0 ≤ y - z by omega) (Int.le_of_lt h1)
     have w1 : (y - x) * fn p q v b = - ((x - y) * fn p q v b) := by rw [← Int.neg_mul]; congr 1; omega
     have w2 : (z - y) * fn p q v a = - ((y - z) * fn p q v a) := by rw [← Int.neg_mul]; congr 1; omega
     have k1 : (y - x) * fn p q v b = 0 := by omega
     have k2 : (z - y) * fn p q v a = 0 := by omega
     rcases Int.mul_eq_zero.mp k1 with k | k <;> rcases Int.mul_eq_zero.mp k2 with k' | k' <;> omega
   unfold btw at hbt
   exact hab (pt_ext (key _ _ _ rfl ⟨hbt.1, hbt.2.1⟩ e0) (key _ _ _ rfl ⟨hbt.2.2.1, hbt.2.2.2⟩ e1))
def Strong (h : List Pt) : Prop :=
 (∀ i, i < h.length → at_ h i ≠ at_ h ((i + 1) % h.length)) ∧
 (∀ i j, i < h.length → j < h.length → at_ h i = at_ h j → i = j) ∧
 ∀ i k, i < h.length → k < h.length → 0 ≤ cr (at_ h i) (at_ h ((i + 1) % h.length)) (at_ h k) ∧
  (cr (at_ h i) (at_ h ((i + 1) % h.length)) (at_ h k) = 0 → k = i ∨ k = (i + 1) % h.length)
theorem ring_strong {S h : List Pt} (r : Ring S h) : Strong h := by
 have hr := ring_at r
 have hi := ring_inj r
 refine ⟨fun i h1 => (hr i h1).1, hi, ?_⟩
 intro i k h1 h2
 have he := hr i h1
 have hk := ring_corner r k h2
 have hn : (i + 1) % h.length < h.length := Nat.mod_lt _ (by omega)
 have := he.2.2.2 _ hk.2
 refine ⟨this.1, fun h0 => ?_⟩
 rcases corner_not_between hk.1 he.2.1 he.2.2.1 he.1 h0 (this.2 h0) with e | e
 ·exact .inl (hi _ _ h2 h1 e)
 ·exact .inr (hi _ _ h2 hn e)
def On (a b p : Pt) : Prop := cr a b p = 0 ∧ btw a b p
instance (a b p : Pt) : Decidable (On a b p) := by unfold On; infer_instance
def Meet (a b c d : Pt) : Prop := On a b c ∨ On a b d ∨ On c d a ∨ On c d b ∨
 (((0 < cr a b c ∧ cr a b d < 0) ∨ (cr a b c < 0 ∧ 0 < cr a b d)) ∧ ((0 < cr c d a ∧ cr c d b < 0) ∨ (cr c d a < 0 ∧ 0 < cr c d b)))
instance (a b c d : Pt) : Decidable (Meet a b c d) := by unfold Meet; infer_instance
def Simple (l : List Pt) : Prop :=
 (∀ i, i < l.length → at_ l i ≠ at_ l ((i + 1) % l.length)) ∧
 ∀ i, i < l.length → ¬ On (at_ l i) (at_ l ((i + 1) % l.length)) (at_ l ((i + 1 + 1) % l.length)) ∧
  ¬ On (at_ l ((i + 1) % l.length)) (at_ l ((i + 1 + 1) % l.length)) (at_ l i) ∧
  ∀ k, i + 2 ≤ k → k < l.length → (k + 1) % l.length ≠ i → ¬ Meet (at_ l i) (at_ l ((i + 1) % l.length)) (at_ l k) (at_ l ((k + 1) % l.length))
def Convex (l : List Pt) : Prop :=
 Simple l ∧ ∀ i, i < l.length → 0 < cr (at_ l i) (at_ l ((i + 1) % l.length)) (at_ l ((i + 1 + 1) % l.length)) ∧ (0 < i → first (at_ l 0) (at_ l i))
theorem mod_two {n i : Nat} (hn : 3 ≤ n) (hi : i < n) : (i + 1 + 1) % n ≠ i ∧ (i + 1 + 1) % n ≠ (i + 1) % n ∧ (i + 1) % n ≠ i := by
 by_cases h1 : i + 1 + 1 < n
 ·rw [Nat.mod_eq_of_lt h1, Nat.mod_eq_of_lt (by omega : i + 1 < n)]; omega
 ·by_cases h2 : i + 1 < n
  ·rw [Nat.mod_eq_of_lt h2, show i + 1 + 1 = n by omega, Nat.mod_self]; omega
  ·rw [show i + 1 = n by omega, Nat.mod_self, show n + 1 = 1 + n by omega, Nat.add_mod_right, Nat.mod_eq_of_lt (by omega)]; omega
theorem strong_turn {l : List Pt} (hn : 3 ≤ l.length) (h : Strong l) (i : Nat) (hi : i < l.length) : 0 < cr (at_ l i) (at_ l ((i + 1) % l.length)) (at_ l ((i + 1 + 1) % l.length)) := by
 have hm := mod_two hn hi
 have hk : (i + 1 + 1) % l.length < l.length := Nat.mod_lt _ (by omega)
 have := h.2.2 i _ hi hk
 rcases Int.lt_trichotomy 0 (cr (at_ l i) (at_ l ((i + 1) % l.length)) (at_ l ((i + 1 + 1) % l.length))) with h1 | h1 | h1
 ·exact h1
 ·rcases this.2 h1.symm with e | e
  ·exact absurd e hm.1
  ·exact absurd e hm.2.1
 ·omega
theorem strong_simple {l : List Pt} (hn : 3 ≤ l.length) (h : Strong l) : Simple l := by
 refine ⟨h.1, ?_⟩
 intro i hi
 have ht := strong_turn hn h i hi
 have hr := cr_rot (at_ l i) (at_ l ((i + 1) % l.length)) (at_ l ((i + 1 + 1) % l.length))
 refine ⟨fun o => by have := o.1; omega, fun o => by have := o.1; omega, ?_⟩
 intro k hk1 hk2 hk3 hm
 have hi1 : (i + 1) % l.length < l.length := Nat.mod_lt _ (by omega)
 have hk4 : (k + 1) % l.length < l.length := Nat.mod_lt _ (by omega)
 have ei : (i + 1) % l.length = i + 1 := Nat.mod_eq_of_lt (by omega)
 have c1 := h.2.2 i k hi hk2
 have c2 := h.2.2 i _ hi hk4
 have c3 := h.2.2 k i hk2 hi
 have c4 := h.2.2 k _ hk2 hi1
 rcases hm with hm | hm | hm | hm | hm
 ·have := c1.2 hm.1; omega
 ·have := c2.2 hm.1
  rcases this with e | e
  ·exact hk3 e
  ·rw [ei] at e
   by_cases h5 : k + 1 < l.length
   ·rw [Nat.mod_eq_of_lt h5] at e; omega
   ·rw [show k + 1 = l.length by omega, Nat.mod_self] at e; omega
 ·have := c3.2 hm.1; omega
 ·rcases c4.2 hm.1 with e | e
  ·omega
  ·rw [ei] at e
   by_cases h5 : k + 1 < l.length
   ·rw [Nat.mod_eq_of_lt h5] at e; omega
   ·rw [show k + 1 = l.length by omega, Nat.mod_self] at e; omega
 ·omega
theorem strong_convex {l : List Pt} (hn : 3 ≤ l.length) (h : Strong l) (h0 : ∀ i, i < l.length → 0 < i → first (at_ l 0) (at_ l i)) : Convex l :=
 ⟨strong_simple hn h, fun i hi => ⟨strong_turn hn h i hi, h0 i hi⟩⟩
def Flat (S : List Pt) : Prop := ∀ a ∈ S, ∀ b ∈ S, ∀ c ∈ S, cr a b c = 0
theorem flat_of_edge {S : List Pt} {a b : Pt} (hab : a ≠ b) (h : ∀ c ∈ S, cr a b c = 0) : Flat S := by
 intro x hx y hy z hz
 have e1 := h x hx
 have e2 := h y hy
 have e3 := h z hz
 have k0 : (b.f0 - a.f0) * cr x y z = 0 := by unfold cr at *; grind
 have k1 : (b.f1 - a.f1) * cr x y z = 0 := by unfold cr at *; grind
 rcases Int.mul_eq_zero.mp k0 with k | k
 ·rcases Int.mul_eq_zero.mp k1 with k' | k'
  ·exact absurd (pt_ext (by omega) (by omega)) hab
  ·exact k'
 ·exact k
theorem ring_three {S h : List Pt} (r : Ring S h) (hf : ¬ Flat S) : 3 ≤ h.length := by
 have hr := ring_at r
 have h0 : 0 < h.length := by obtain ⟨a, t, rfl, _⟩ := r; simp
 rcases Nat.lt_or_ge h.length 3 with h3 | h3
 ·exfalso
  have a1 := hr 0 h0
  by_cases e : h.length = 1
  ·rw [e] at a1; exact a1.1 rfl
  ·have e2 : h.length = 2 := by omega
   have a2 := hr 1 (by omega)
   rw [e2] at a1 a2
   simp only [Nat.zero_add, Nat.mod_self, Nat.one_mod] at a1 a2
   apply hf
   apply flat_of_edge a1.1
   intro c hc
   have b1 := (a1.2.2.2 c hc).1
   have b2 := (a2.2.2.2 c hc).1
   have : cr (at_ h (1 % 2)) (at_ h 0) c = - cr (at_ h 0) (at_ h (1 % 2)) c := by unfold cr; grind
   simp only [Nat.one_mod] at *
   omega
 ·exact h3
theorem first_tri (a b : Pt) : a = b ∨ first a b ∨ first b a := by
 unfold first
 rcases Int.lt_trichotomy a.f1 b.f1 with h | h | h
 ·exact .inr (.inl (.inl h))
 ·rcases Int.lt_trichotomy a.f0 b.f0 with h' | h' | h'
  ·exact .inr (.inl (.inr ⟨h, h'⟩))
  ·exact .inl (pt_ext h' h)
  ·exact .inr (.inr (.inr ⟨h.symm, h'⟩))
 ·exact .inr (.inr (.inl h))
theorem first_trans {a b c : Pt} (h : first a b) (h' : first b c) : first a c := by unfold first at *; omega
theorem first_irrefl (a : Pt) : ¬ first a a := by unfold first; omega
theorem flat_ring {S h : List Pt} (r : Ring S h) (hf : Flat S) : h.length < 3 := by
 rcases Nat.lt_or_ge h.length 3 with h3 | h3
 ·exact h3
 ·have hs := (ring_strong r).2.2 0 2 (by omega) (by omega)
  have c0 := (ring_corner r 0 (by omega)).2
  have c1 := (ring_corner r ((0 + 1) % h.length) (Nat.mod_lt _ (by omega))).2
  have c2 := (ring_corner r 2 (by omega)).2
  have := hs.2 (hf _ c0 _ c1 _ c2)
  rw [Nat.mod_eq_of_lt (by omega)] at this
  omega
theorem flat_of_first {S : List Pt} {o : Pt} (h : ∀ a ∈ S, ∀ b ∈ S, cr o a b = 0) : Flat S := by
 by_cases e : ∃ a ∈ S, a ≠ o
 ·obtain ⟨a, ha, hne⟩ := e
  exact flat_of_edge (fun e => hne e.symm) (h a ha)
 ·have : ∀ a ∈ S, a = o := fun a ha => Classical.byContradiction fun hn => e ⟨a, ha, hn⟩
  intro a ha b hb c hc
  rw [this a ha, this b hb, this c hc, cr_self1]
theorem two_of_not_flat {S : List Pt} (hf : ¬ Flat S) : ∃ a b, a ∈ S ∧ b ∈ S ∧ a ≠ b := by
 apply Classical.byContradiction
 intro hn
 apply hf
 intro a ha b hb c hc
 have e : ∀ x ∈ S, x = a := fun x hx => Classical.byContradiction fun hne => hn ⟨x, a, hx, ha, hne⟩
 rw [e b hb, e c hc, cr_self1]
end Go.Proofs.Ytoffmpkgickfhaa.M
end
section
namespace Go.Proofs.Ytoffmpkgickfhaa.M
open Go.RowKit Go.Proofs.Ytoffmpkgickfhaa.PG Go.Proofs.YtoffmpkgickfhaaW.PrintMore Go.Proofs.YtoffmpkgickfhaaW.PrintWords
def Rt {α : Type} (g : Nat → Option α) (v : α) : Prop := ∃ K, ∀ k, K ≤ k → g k = some v
theorem wz (n : Int) (h0 : -9223372036854775808 ≤ n) (h1 : n ≤ 9223372036854775807) : wrap64 n = n := by unfold wrap64; omega
def Bd (p : Pt) : Prop := -1000000 ≤ p.f0 ∧ p.f0 ≤ 1000000 ∧ -1000000 ≤ p.f1 ∧ p.f1 ≤ 1000000
theorem mulb {a b : Int} (h0 : -2000000 ≤ a) (h1 : a ≤ 2000000) (h2 : -2000000 ≤ b) (h3 : b ≤ 2000000) : -4000000000000 ≤ a * b ∧ a * b ≤ 4000000000000 := by
 have h : (a * b).natAbs = a.natAbs * b.natAbs := Int.natAbs_mul a b
 have h' : a.natAbs * b.natAbs ≤ 2000000 * 2000000 := Nat.mul_le_mul (by omega) (by omega)
 omega
theorem cr_eq (a b c : Pt) : cr a b c = (b.f0 - a.f0) * (c.f1 - a.f1) - (c.f0 - a.f0) * (b.f1 - a.f1) := rfl
theorem Cross_f {a b c : Pt} (ha : Bd a) (hb : Bd b) (hc : Bd c) : cracknelref04_Cross.f a.f0 a.f1 b.f0 b.f1 c.f0 c.f1 = some (cr a b c) := by
 obtain ⟨a0, a1, a2, a3⟩ := ha; obtain ⟨b0, b1, b2, b3⟩ := hb; obtain ⟨c0, c1, c2, c3⟩ := hc
 have h1 := @mulb (b.f0 - a.f0) (c.f1 - a.f1) (by omega) (by omega) (by omega) (by omega)
 have h2 := @mulb (c.f0 - a.f0) (b.f1 - a.f1) (by omega) (by omega) (by omega) (by omega)
 unfold cracknelref04_Cross.f
 rw [wz (b.f0 - a.f0) (by omega) (by omega), wz (c.f1 - a.f1) (by omega) (by omega), wz (c.f0 - a.f0) (by omega) (by omega), wz (b.f1 - a.f1) (by omega) (by omega), wz ((b.f0 - a.f0) * (c.f1 - a.f1)) (by omega) (by omega), wz ((c.f0 - a.f0) * (b.f1 - a.f1)) (by omega) (by omega), wz _ (by omega) (by omega), cr_eq]
theorem side_f {a b c : Pt} (ha : Bd a) (hb : Bd b) (hc : Bd c) : shape_side.f a.f0 a.f1 b.f0 b.f1 c.f0 c.f1 = some (cr a b c) := by
 obtain ⟨a0, a1, a2, a3⟩ := ha; obtain ⟨b0, b1, b2, b3⟩ := hb; obtain ⟨c0, c1, c2, c3⟩ := hc
 have h1 := @mulb (b.f0 - a.f0) (c.f1 - a.f1) (by omega) (by omega) (by omega) (by omega)
 have h2 := @mulb (b.f1 - a.f1) (c.f0 - a.f0) (by omega) (by omega) (by omega) (by omega)
 unfold shape_side.f shape_sub.f shape_cross.f
 simp only [Option.bind_some]
 rw [wz (b.f0 - a.f0) (by omega) (by omega), wz (c.f1 - a.f1) (by omega) (by omega), wz (c.f0 - a.f0) (by omega) (by omega), wz (b.f1 - a.f1) (by omega) (by omega), wz ((b.f0 - a.f0) * (c.f1 - a.f1)) (by omega) (by omega), wz ((b.f1 - a.f1) * (c.f0 - a.f0)) (by omega) (by omega), wz _ (by omega) (by omega), cr_eq]
 congr 1; grind
theorem in_f (v a b : Int) : cracknelref04_in.f v a b = some (decide (a ≤ v ∧ v ≤ b)) := by
 unfold cracknelref04_in.f
 by_cases h : v ≥ a
 ·rw [if_pos h]; simp; omega
 ·rw [if_neg h]; simp; omega
theorem mn_eq (a b : Int) : mn a b = min a b := by unfold mn; split <;> omega
theorem mx_eq (a b : Int) : mx a b = max a b := by unfold mx; split <;> omega
theorem On_f {a b c : Pt} (ha : Bd a) (hb : Bd b) (hc : Bd c) : cracknelref04_On.f a.f0 a.f1 b.f0 b.f1 c.f0 c.f1 = some (decide (On a b c)) := by
 unfold cracknelref04_On.f
 rw [Cross_f ha hb hc]
 simp only [Option.bind_some, in_f, mn_eq, mx_eq]
 by_cases h : cr a b c = 0
 ·rw [if_pos h]
  by_cases h2 : min a.f0 b.f0 ≤ c.f0 ∧ c.f0 ≤ max a.f0 b.f0
  ·simp only [h2, and_self, decide_true, if_true]; simp only [On, btw, h, h2, true_and]
  ·rw [if_neg (by simpa using h2)]; simp only [On, btw, h, true_and]; rw [decide_eq_false]; intro h3; exact h2 ⟨h3.1, h3.2.1⟩
 ·rw [if_neg h]; simp only [On, h, false_and, decide_false]
theorem sq_nn (x : Int) : 0 ≤ x * x := by
 rcases Int.le_total 0 x with h | h
 ·exact Int.mul_nonneg h h
 ·exact Int.mul_nonneg_of_nonpos_of_nonpos h h
theorem dot_on {a b p : Pt} (h : cr a b p = 0) : (a.f0 - p.f0) * (b.f0 - p.f0) + (a.f1 - p.f1) * (b.f1 - p.f1) ≤ 0 ↔ btw a b p := by
 have hx : (a.f0 - p.f0) * (b.f1 - p.f1) = (a.f1 - p.f1) * (b.f0 - p.f0) := by rw [cr_eq] at h; grind
 generalize hu : a.f0 - p.f0 = u at *
 generalize hv : b.f0 - p.f0 = v at *
 generalize hs : a.f1 - p.f1 = s at *
 generalize ht : b.f1 - p.f1 = t at *
 have key : u * v + s * t ≤ 0 ↔ (u * v ≤ 0 ∧ s * t ≤ 0) := by
  constructor
  ·intro h0
   have e : (u * v) * (s * t) = (u * t) * (u * t) := by grind
   have sq : 0 ≤ (u * v) * (s * t) := by rw [e]; exact sq_nn _
   constructor
   ·rcases Int.lt_or_le 0 (u * v) with h1 | h1
    ·have h2 : s * t < 0 := by omega
     have := Int.mul_neg_of_pos_of_neg h1 h2; omega
    ·exact h1
   ·rcases Int.lt_or_le 0 (s * t) with h1 | h1
    ·have h2 : u * v < 0 := by omega
     have := Int.mul_neg_of_neg_of_pos h2 h1; omega
    ·exact h1
  ·omega
 have sgn : ∀ x y : Int, x * y ≤ 0 ↔ ((x ≤ 0 ∧ 0 ≤ y) ∨ (0 ≤ x ∧ y ≤ 0)) := by
  intro x y
  constructor
  ·intro h
   rcases Int.lt_trichotomy x 0 with h1 | h1 | h1
   ·rcases Int.lt_or_le y 0 with h2 | h2
    ·have := Int.mul_pos_of_neg_of_neg h1 h2; omega
    ·omega
   ·omega
   ·rcases Int.lt_or_le 0 y with h2 | h2
    ·have := Int.mul_pos h1 h2; omega
    ·omega
  ·rintro (⟨h1, h2⟩ | ⟨h1, h2⟩)
   ·exact Int.mul_nonpos_of_nonpos_of_nonneg h1 h2
   ·exact Int.mul_nonpos_of_nonneg_of_nonpos h1 h2
 rw [key, sgn, sgn]; unfold btw; omega
theorem dot_f {a b p : Pt} (ha : Bd a) (hb : Bd b) (hp : Bd p) : shape_dot.f (a.f0 - p.f0) (a.f1 - p.f1) (b.f0 - p.f0) (b.f1 - p.f1) = some ((a.f0 - p.f0) * (b.f0 - p.f0) + (a.f1 - p.f1) * (b.f1 - p.f1)) := by
 obtain ⟨a0, a1, a2, a3⟩ := ha; obtain ⟨b0, b1, b2, b3⟩ := hb; obtain ⟨c0, c1, c2, c3⟩ := hp
 have h1 := @mulb (a.f0 - p.f0) (b.f0 - p.f0) (by omega) (by omega) (by omega) (by omega)
 have h2 := @mulb (a.f1 - p.f1) (b.f1 - p.f1) (by omega) (by omega) (by omega) (by omega)
 unfold shape_dot.f
 rw [wz ((a.f0 - p.f0) * (b.f0 - p.f0)) (by omega) (by omega), wz ((a.f1 - p.f1) * (b.f1 - p.f1)) (by omega) (by omega), wz _ (by omega) (by omega)]
theorem sub_f {a b : Pt} (ha : Bd a) (hb : Bd b) : shape_sub.f a.f0 a.f1 b.f0 b.f1 = some (a.f0 - b.f0, a.f1 - b.f1) := by
 obtain ⟨a0, a1, a2, a3⟩ := ha; obtain ⟨b0, b1, b2, b3⟩ := hb
 unfold shape_sub.f
 rw [wz _ (by omega) (by omega), wz _ (by omega) (by omega)]
theorem on_f {a b c : Pt} (ha : Bd a) (hb : Bd b) (hc : Bd c) : shape_on.f a.f0 a.f1 b.f0 b.f1 c.f0 c.f1 = some (decide (On a b c)) := by
 unfold shape_on.f
 rw [side_f ha hb hc, sub_f ha hc, sub_f hb hc]
 simp only [Option.bind_some]
 rw [dot_f ha hb hc]
 simp only [Option.bind_some]
 by_cases h : cr a b c = 0
 ·rw [if_pos h]; have e := dot_on h; simp only [e, On, h, true_and]
 ·rw [if_neg h]; simp only [On, h, false_and, decide_false]
def sg (n : Int) : Int := if n > 0 then 1 else if n < 0 then -1 else 0
theorem compare_f (a b : Int) : cmp_Compare_int.f a b = some (sg (a - b)) := by
 unfold cmp_Compare_int.f cmp_isNaN_int.f sg
 simp
 split <;> (try split) <;> (try split) <;> (try split) <;> first | rfl | omega | (simp; done) | skip
theorem sign_f (n : Int) : shape_sign.f n = some (sg n) := by
 unfold shape_sign.f; rw [compare_f]; simp
theorem sg_neg (x y : Int) : wrap64 (sg x * sg y) < 0 ↔ ((0 < x ∧ y < 0) ∨ (x < 0 ∧ 0 < y)) := by
 unfold sg
 split <;> (try split) <;> (try split) <;> (try split) <;> simp only [wrap64] <;> omega
theorem meet_f {a b c d : Pt} (ha : Bd a) (hb : Bd b) (hc : Bd c) (hd : Bd d) (k : Nat) : shape_meet.f (k + 1) a.f0 a.f1 b.f0 b.f1 c.f0 c.f1 d.f0 d.f1 = some (decide (Meet a b c d)) := by
 unfold shape_meet.f
 simp only [shape_meet.j0, on_f ha hb hc, on_f ha hb hd, on_f hc hd ha, on_f hc hd hb, side_f ha hb hc, side_f ha hb hd, side_f hc hd ha, side_f hc hd hb, sign_f, Option.bind_some, sg_neg, decide_eq_true_eq]
 unfold Meet
 split
 ·simp_all
 ·split
  ·simp_all
  ·split
   ·simp_all
   ·split
    ·simp_all
    ·split <;> simp_all <;> omega
theorem rd_at (l : List Pt) (i : Nat) : rd_T29 l (i : Int) = at_ l i := rfl
theorem tmod_nat (i n : Nat) (h : (i : Int) ≤ 9223372036854775806) : Int.tmod (wrap64 ((i : Int) + 1)) (n : Int) = (((i + 1) % n : Nat) : Int) := by
 rw [wz _ (by omega) (by omega)]
 rw [show ((i : Int) + 1) = ((i + 1 : Nat) : Int) by omega, ← Int.ofNat_tmod]
theorem first_f (a b : Pt) : cracknelref04_first.f a.f0 a.f1 b.f0 b.f1 = some (decide (first a b)) := by
 unfold cracknelref04_first.f first
 split
 ·simp_all
 ·split
  ·simp_all
  ·simp_all
theorem pt_beq (a b : Pt) : (a.f0 == b.f0 && a.f1 == b.f1) = decide (a = b) := by
 by_cases h : a = b
 ·subst h; simp
 ·simp only [h, decide_false, Bool.and_eq_false_imp, beq_iff_eq]
  intro h0
  simp only [beq_eq_false_iff_ne, ne_eq]
  intro h1; exact h (pt_ext h0 h1)
theorem from_split {n i : Nat} (hi : i < n) (P : Nat → Prop) : (∀ i', i ≤ i' → i' < n → P i') ↔ (P i ∧ ∀ i', i + 1 ≤ i' → i' < n → P i') := by
 constructor
 ·intro h; exact ⟨h i (Nat.le_refl _) hi, fun j' h1 h2 => h j' (by omega) h2⟩
 ·rintro ⟨h0, h⟩ j' h1 h2
  rcases Nat.eq_or_lt_of_le h1 with rfl | h3
  ·exact h0
  ·exact h j' h3 h2
theorem fuel1 {k K : Nat} (h : K + 1 ≤ k) : ∃ m, k = m + 1 := ⟨k - 1, by omega⟩
theorem fuel2 {k K : Nat} (h : K + 2 ≤ k) : ∃ m, k = m + 1 + 1 := ⟨k - 2, by omega⟩
theorem rt_step {α : Type} {g h : Nat → Option α} {v : α} (e : ∀ k, g (k + 1) = h k) (r : Rt h v) : Rt g v := by
 obtain ⟨K, hK⟩ := r
 refine ⟨K + 1, fun k hk => ?_⟩
 obtain ⟨k, rfl⟩ := fuel1 hk
 rw [e]; exact hK k (by omega)
theorem rt_ret {α : Type} {g : Nat → Option α} {v : α} (e : ∀ k, g (k + 1) = some v) : Rt g v := by
 refine ⟨0 + 1, fun k hk => ?_⟩
 obtain ⟨k, rfl⟩ := fuel1 hk
 exact e k
theorem wrap_succ (i : Nat) (h : i ≤ 1000000) : wrap64 ((i : Int) + 1) = ((i + 1 : Nat) : Int) := by rw [wz _ (by omega) (by omega)]; omega
theorem wrap_succ2 (i : Nat) (h : i ≤ 1000000) : wrap64 ((i : Int) + 2) = ((i + 2 : Nat) : Int) := by rw [wz _ (by omega) (by omega)]; omega
theorem tmod_nat' (i n : Nat) (_h : i ≤ 1000000) : Int.tmod (((i + 1 : Nat)) : Int) (n : Int) = (((i + 1) % n : Nat) : Int) := by
 rw [← Int.ofNat_tmod]
theorem at_bd {l : List Pt} (hb : ∀ p ∈ l, Bd p) {i : Nat} (hi : i < l.length) : Bd (at_ l i) := hb _ (at_mem hi)
theorem tmod_in (i n : Nat) (hn : 0 < n) : (0 : Int) ≤ (((i % n : Nat)) : Int) ∧ (((i % n : Nat)) : Int) < (n : Int) := by
 have := Nat.mod_lt i hn; omega
end Go.Proofs.Ytoffmpkgickfhaa.M
end
