/- Contract of the law of number 17: it answers true. No condition. -/
import Derived.Test.YtkjghcbnmipgfaaGreatDoorA36
set_option linter.unusedSectionVars false
set_option linter.unusedSimpArgs false
set_option linter.unusedVariables false
set_option maxHeartbeats 4000000
set_option maxRecDepth 100000
namespace Go.Proofs.YtkjghcbnmipgfaaGreatDoor.Vc
open Go.RowKit Ma
def F17 : Fn := ⟨127, 4, [.tmp 8],
 (.seq
 (.reg [ii 4 (.box 0 5) [.t 0],
 ii 6 (.box 1 4) [.t 2],
 mc 8 (.bool false)])
 (.seq
 (.reg [ii 16 (.call 18) [],
 mt 9 16])
 (.seq
 (.seq
 (.reg [mv 17 9,
 ii 18 (.un .not) [.t 17]])
 (.cond (.t 18)
 (.seq
 (.reg [mc 8 (.bool false)])
 .ret)
 .skip))
 (.seq
 (.reg [ii 19 (.load 5 true false) [.t 4],
 ii 20 (.call 19) [.t 19],
 ⟨none, none, .store 5, [.t 4, .t 20]⟩])
 (.seq
 (.reg [ii 21 (.load 5 true false) [.t 4],
 mv 22 1,
 ii 23 (.call 20) [.t 21, .t 22],
 mt 10 23])
 (.seq
 (.reg [ii 25 (.load 5 true false) [.t 4],
 ii 26 (.load 4 true false) [.t 6],
 ii 27 (.call 21) [.t 25, .t 26],
 mv 24 27,
 ii 28 (.ext 0) [.t 24],
 ii 29 (.ext 1) [.t 24],
 ⟨none, none, .store 4, [.t 6, .t 28]⟩,
 mt 11 29])
 (.seq
 (.reg [mv 30 3,
 b1 31 .and 30 (.int .i64 31),
 mt 3 31])
 (.seq
 (.seq
 (.reg [mv 32 11,
 ii 33 (.un .not) [.t 32]])
 (.cond (.t 33)
 (.seq
 (.reg [mc 8 (.bool true)])
 .ret)
 .skip))
 (.seq
 (.reg [mv 35 10,
 ii 36 (.load 4 true false) [.t 6],
 mv 37 3,
 ii 38 (.call 22) [.t 35, .t 36, .t 37],
 mv 34 38,
 ii 39 (.ext 0) [.t 34],
 ii 40 (.ext 1) [.t 34],
 ⟨some 12, none, .alloc 2 2 [.p (.int .i64 0), .ow 4 true []], []⟩,
 ⟨none, none, .store 2, [.t 12, .t 39]⟩,
 mt 13 40])
 (.seq
 (.reg [mv 42 10,
 ii 43 (.load 4 true false) [.t 6],
 mv 44 3,
 b1 45 .add 44 (.int .i64 1),
 ii 46 (.call 22) [.t 42, .t 43, .t 45],
 mv 41 46,
 ii 47 (.ext 0) [.t 41],
 ii 48 (.ext 1) [.t 41],
 ⟨some 14, none, .alloc 3 2 [.p (.int .i64 0), .ow 4 true []], []⟩,
 ⟨none, none, .store 2, [.t 14, .t 47]⟩,
 mt 15 48])
 (.seq
 (.seq
 (.regd [mv 49 15,
 mv 50 49,
 gt 51 50 (.mov false) [.t 13],
 gt 52 50 (.un .not) [.t 51],
 gt 53 50 (.mov false) [.t 52],
 gf 54 53 (.fad 1) [.t 12],
 gf 55 53 (.at 2 (.load 1 false false)) [.t 54],
 gf 56 53 .lenD [.t 55],
 gf 57 53 (.bin .eql) [.t 56, .c (.p (.int .i64 0))],
 gt 58 50 .pick [.t 53, .c (.p (.bool true)), .t 57],
 gt 59 50 (.mov false) [.t 58],
 gf 60 59 (.fad 1) [.t 14],
 gf 61 59 (.at 3 (.load 1 false false)) [.t 60],
 gf 62 59 .lenD [.t 61],
 gf 63 59 (.bin .eql) [.t 62, .c (.p (.int .i64 0))],
 gt 64 50 .pick [.t 59, .c (.p (.bool true)), .t 63],
 gt 65 50 (.mov false) [.t 64],
 gf 66 65 (.fad 1) [.t 12],
 gf 67 65 (.at 2 (.load 1 false false)) [.t 66],
 gf 68 65 (.iad 4) [.t 67, .c (.p (.int .i64 0))],
 gf 69 65 (.fad 0) [.t 68],
 gf 70 65 (.loadp 1 false) [.t 69],
 gf 71 65 (.fad 1) [.t 14],
 gf 72 65 (.at 3 (.load 1 false false)) [.t 71],
 gf 73 65 (.iad 4) [.t 72, .c (.p (.int .i64 0))],
 gf 74 65 (.fad 0) [.t 73],
 gf 75 65 (.loadp 1 false) [.t 74],
 gf 76 65 (.bin .gtr) [.t 70, .t 75],
 gt 77 50 .pick [.t 65, .c (.p (.bool true)), .t 76],
 ii 78 .pick [.t 50, .t 77, .c (.p (.bool false))]])
 (.cond (.t 78)
 (.seq
 (.reg [mc 8 (.bool false)])
 .ret)
 .skip))
 (.seq
 (.regd [mv 79 13,
 ii 80 (.un .not) [.t 79],
 mv 81 80,
 gf 82 81 (.fad 1) [.t 12],
 gf 83 81 (.at 2 (.load 1 false false)) [.t 82],
 gf 84 81 .lenD [.t 83],
 gf 85 81 (.bin .eql) [.t 84, .c (.p (.int .i64 1))],
 gf 86 81 (.mov false) [.t 85],
 gt 87 86 (.fad 1) [.t 12],
 gt 88 86 (.at 2 (.load 1 false false)) [.t 87],
 gt 89 86 (.iad 4) [.t 88, .c (.p (.int .i64 0))],
 gt 90 86 (.loadp 4 true) [.t 89],
 gt 91 86 (.fad 1) [.t 12],
 gt 92 86 (.at 2 (.load 1 false false)) [.t 91],
 gt 93 86 (.iad 4) [.t 92, .c (.p (.int .i64 0))],
 gt 94 86 (.fad 0) [.t 93],
 gt 95 86 (.loadp 1 false) [.t 94],
 gt 96 86 (.fad 1) [.t 6],
 gt 97 86 (.at 1 (.load 1 false false)) [.t 96],
 gt 98 86 (.fad 0) [.t 6],
 gt 99 86 (.at 1 (.load 1 false false)) [.t 98],
 ⟨some 100, (some (86, true)), .build [.int .i64 0, .int .i64 0, .int .i64 0, .int .i64 0] [(0, 1), (2, 1), (3, 1)], [.t 95, .t 97, .t 99]⟩,
 gt 101 86 (.eqs 4 false) [.t 90, .t 100],
 gf 102 81 .pick [.t 86, .t 101, .c (.p (.bool false))],
 gf 103 81 (.mov false) [.t 102],
 gt 104 103 (.mov false) [.t 10],
 gt 105 103 (.fad 1) [.t 12],
 gt 106 103 (.at 2 (.load 1 false false)) [.t 105],
 gt 107 103 (.iad 4) [.t 106, .c (.p (.int .i64 0))],
 gt 108 103 (.fad 0) [.t 107],
 gt 109 103 (.loadp 1 false) [.t 108],
 gt 110 103 (.iad 1) [.t 104, .t 109],
 gt 111 103 (.loadp 1 false) [.t 110],
 gt 112 103 (.pl (.call 39)) [.t 111],
 gt 113 103 (.fad 0) [.t 6],
 gt 114 103 (.at 1 (.load 1 false false)) [.t 113],
 gt 115 103 (.mov false) [.t 3],
 gt 116 103 (.bin .add) [.t 114, .t 115],
 gt 117 103 (.fad 1) [.t 6],
 gt 118 103 (.at 1 (.load 1 false false)) [.t 117],
 gt 119 103 (.fad 2) [.t 6],
 gt 120 103 (.at 1 (.load 1 false false)) [.t 119],
 ⟨some 121, (some (103, true)), .build [.int .i64 0, .int .i64 0, .int .i64 0] [(0, 1), (1, 1), (2, 1)], [.t 116, .t 118, .t 120]⟩,
 gt 122 103 (.bsl 3 1) [.t 121],
 gt 123 103 (.pl (.app 3 24)) [.t 112, .t 122],
 gt 124 103 (.pl (.call 34)) [.t 123],
 gf 125 81 .pick [.t 103, .t 124, .c (.p (.bool false))],
 ii 126 .pick [.t 81, .c (.p (.bool true)), .t 125],
 mt 8 126])
 .ret))))))))))))⟩
theorem k17 : chkF Tryz.prog 17 F17 = true := by kernel_rfl
theorem and31 (w : Int) : 0 ≤ bitsOf .and .i64 w 31 ∧ bitsOf .and .i64 w 31 ≤ 31 := by
  have h : (BitVec.ofInt 64 w &&& BitVec.ofInt 64 31).toNat ≤ 31 := by
    rw [BitVec.toNat_and]
    exact Nat.and_le_right
  have e : bitsOf .and .i64 w 31 = IntKind.wrap .i64 ((BitVec.ofInt 64 w &&& BitVec.ofInt 64 31).toNat : Int) := rfl
  rw [e, wrapE (by omega) (by omega)]
  omega
theorem wholeP_if (k D C : Int) (h : ¬ k < 0) : wholeP k D C = [⟨k, 0, D, C⟩] := by unfold wholeP; rw [if_neg h]
theorem wholeP_no (k D C : Int) (h : k < 0) : wholeP k D C = [] := by unfold wholeP; rw [if_pos h]
theorem law17 (hbeg : PureCall Tryz.prog 18 [] (.p (.bool true))) (c : Cf) (nl : Bool) (ls : LL) (t : Tk) (w0 : Int) : PureCall Tryz.prog 17 [eCf c, sLL nl ls, eT t, .int .i64 w0] (.p (.bool true)) := by
  have hm := maxLen_eq
  obtain ⟨d, L, hd, h19, h20, hL, hlen, hfew, heach⟩ := kept c nl ls
  have hrl := (cf_head hd).2
  have h21 := one21 d t (by omega)
  have hcut := cut_len t
  generalize t.cut = u at *
  simp only [eCf, eT] at h19 h20 h21
  have hw31 := and31 w0
  cases hok : u.ok d.res.length with
  | false =>
    rw [hok] at h21
    refine Fn.run k17 rfl ?_
    generalize Tryz.prog = P at *
    (repeat' ((conv => whnf); first | exact trivial | with_reducible refine zX ?_ | refine ⟨rfl, ?_⟩ | refine ⟨_, rfl, ?_⟩ | with_reducible refine zP ?_ | with_reducible refine zL ?_ | refine ⟨fun _ => ?_, fun _ => ?_⟩ | refine zn ?_ | refine zb rfl ?_ | refine zX ?_ | refine zo rfl ?_ | refine zs ?_ | intro _)); all_goals (try (conv => whnf))
    all_goals first | rfl | exact bool_end hv
  | true =>
    rw [hok] at h21
    have hlim := lim_of hd hok
    generalize hw0 : bitsOf .and .i64 w0 31 = w at *
    obtain ⟨c1, c2, l1, l2, m1, m2, C1, CD, DT, T2⟩ := hlim
    have h22 := place22 false L hL u w (by omega) (by omega)
    have h23 := place22 false L hL u (w + 1) (by omega) (by omega)
    have e1 : IntKind.wrap .i64 (w + 1) = w + 1 := wrapE (by omega) (by omega)
    rw [show u.C + (w + 1) = u.C + w + 1 by omega] at h23
    have hwt := core_waits (L.map (·.2)) (u.C + w) u.D u.T (by omega)
    have hge := coreV_ge ⟨u.C + w, u.D, u.T⟩ (L.map (·.2))
    rw [List.length_map] at hge
    have hfit := fun h => @core_fits (L.map (·.2)) ⟨u.C + w, u.D, u.T⟩ h
    have h34 := fun l => fits34 false l
    have h39 := fun b l => loads39 b l
    generalize coreV (L.map (·.2)) ⟨u.C + w, u.D, u.T⟩ = a at *
    generalize coreV (L.map (·.2)) ⟨u.C + w + 1, u.D, u.T⟩ = b at *
    rw [← e1] at h23
    simp only [eCf, eT] at h22 h23
    unfold planR at h22 h23
    by_cases ha : a < 0
    · have hb : b < 0 := Int.not_le.1 fun h => by have := (hwt (by omega)).1; omega
      rw [wholeP_no _ _ _ ha, if_pos rfl] at h22
      rw [wholeP_no _ _ _ hb, if_pos rfl] at h23
      simp only [ePl] at h22 h23
      clear h34 h39 hfit
      refine Fn.run k17 rfl ?_
      generalize Tryz.prog = P at *
      (repeat' ((conv => whnf); first | exact trivial | with_reducible refine zX ?_ | refine ⟨rfl, ?_⟩ | refine ⟨_, rfl, ?_⟩ | with_reducible refine zP ?_ | with_reducible refine zL ?_ | refine ⟨fun _ => ?_, fun _ => ?_⟩ | refine zn ?_ | refine zb rfl ?_ | refine zX ?_ | refine zo rfl ?_ | refine zs ?_ | intro _)); all_goals (try (conv => whnf))
      rw [hw0]
      (repeat' ((conv => whnf); first | exact trivial | with_reducible refine zX ?_ | refine ⟨rfl, ?_⟩ | refine ⟨_, rfl, ?_⟩ | with_reducible refine zP ?_ | with_reducible refine zL ?_ | refine ⟨fun _ => ?_, fun _ => ?_⟩ | refine zn ?_ | refine zb rfl ?_ | refine zX ?_ | refine zo rfl ?_ | refine zs ?_ | intro _)); all_goals (try (conv => whnf))
      all_goals rfl
    · rw [wholeP_if _ _ _ ha, if_neg (by simp)] at h22
      obtain ⟨i, hi, e2, hf⟩ := hfit ha
      rw [List.length_map] at hi
      rw [List.getElem_map] at hf
      have hp1 := heach L[i] (List.getElem_mem hi)
      have hrow : (L.map eC)[a.toNat]? = some (sL L[i].1 L[i].2) := by
        rw [List.getElem?_map, e2, Int.toNat_natCast, List.getElem?_eq_getElem hi]; rfl
      have h39 := h39 L[i].1 L[i].2
      have h34 := h34 (L[i].2 ++ [⟨u.C + w, u.D, u.T⟩])
      rw [hf, sL, List.map_append] at h34
      rw [List.take_of_length_le hp1.2.1] at h39
      have hlen10 := hp1.2.1
      generalize L[i] = p at *
      have ew : IntKind.wrap .i64 (u.C + w) = u.C + w := wrapE (by omega) (by omega)
      have h34' : PureCall Tryz.prog 34 [.sl 3 (p.2.isEmpty && false) (p.2.map eL ++ [.agg [.int .i64 (IntKind.wrap .i64 (u.C + w)), .int .i64 u.D, .int .i64 u.T]])] (.p (.bool true)) := by rw [Bool.and_false, ew]; exact h34
      clear h34 hfit
      have z0 : ((([PV.agg [.int .i64 a, .int .i64 0, .int .i64 u.D, .int .i64 u.C]].length : Nat) : Int) == 0) = false := rfl
      have z1 : ((([PV.agg [.int .i64 a, .int .i64 0, .int .i64 u.D, .int .i64 u.C]].length : Nat) : Int) == 1) = true := rfl
      have hE : (if false = true then !((a == a) && (((0 : Int) == 0) && ((u.D == u.D) && ((u.C == u.C) && true)))) else ((a == a) && (((0 : Int) == 0) && ((u.D == u.D) && ((u.C == u.C) && true))))) = true := by simp
      have ha0 : (0 : Int) ≤ a := by omega
      simp only [ePl, List.map_cons, List.map_nil, eP] at h22
      by_cases hb : b < 0
      · rw [wholeP_no _ _ _ hb, if_pos rfl] at h23
        simp only [ePl] at h23
        refine Fn.run k17 rfl ?_
        generalize Tryz.prog = P at *
        (repeat' ((conv => whnf); first | exact trivial | with_reducible refine zX ?_ | refine ⟨rfl, ?_⟩ | refine ⟨_, rfl, ?_⟩ | with_reducible refine zP ?_ | with_reducible refine zL ?_ | refine ⟨fun _ => ?_, fun _ => ?_⟩ | refine zn ?_ | refine zb rfl ?_ | refine zX ?_ | refine zo rfl ?_ | refine zs ?_ | intro _)); all_goals (try (conv => whnf))
        rw [hw0]
        (repeat' ((conv => whnf); first | exact trivial | with_reducible refine zX ?_ | refine ⟨rfl, ?_⟩ | refine ⟨_, rfl, ?_⟩ | with_reducible refine zP ?_ | with_reducible refine zL ?_ | refine ⟨fun _ => ?_, fun _ => ?_⟩ | refine zn ?_ | refine zb rfl ?_ | refine zX ?_ | refine zo rfl ?_ | refine zs ?_ | intro _)); all_goals (try (conv => whnf))
        all_goals rfl
      · rw [wholeP_if _ _ _ hb, if_neg (by simp)] at h23
        simp only [ePl, List.map_cons, List.map_nil, eP] at h23
        have hab := (hwt hb).2
        have z2 : ((([PV.agg [.int .i64 b, .int .i64 0, .int .i64 u.D, .int .i64 u.C]].length : Nat) : Int) == 0) = false := rfl
        have z3 : decide (a > b) = false := decide_eq_false (by omega)
        refine Fn.run k17 rfl ?_
        generalize Tryz.prog = P at *
        (repeat' ((conv => whnf); first | exact trivial | with_reducible refine zX ?_ | refine ⟨rfl, ?_⟩ | refine ⟨_, rfl, ?_⟩ | with_reducible refine zP ?_ | with_reducible refine zL ?_ | refine ⟨fun _ => ?_, fun _ => ?_⟩ | refine zn ?_ | refine zb rfl ?_ | refine zX ?_ | refine zo rfl ?_ | refine zs ?_ | intro _)); all_goals (try (conv => whnf))
        rw [hw0]
        (repeat' ((conv => whnf); first | exact trivial | with_reducible refine zX ?_ | refine ⟨rfl, ?_⟩ | refine ⟨_, rfl, ?_⟩ | with_reducible refine zP ?_ | with_reducible refine zL ?_ | refine ⟨fun _ => ?_, fun _ => ?_⟩ | refine zn ?_ | refine zb rfl ?_ | refine zX ?_ | refine zo rfl ?_ | refine zs ?_ | intro _)); all_goals (try (conv => whnf))
        all_goals rfl
end Go.Proofs.YtkjghcbnmipgfaaGreatDoor.Vc
