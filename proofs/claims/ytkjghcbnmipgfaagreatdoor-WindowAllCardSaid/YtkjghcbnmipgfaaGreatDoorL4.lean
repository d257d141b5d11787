/- Contract of the law of number 4: it answers true. No condition. -/
import Derived.Test.YtkjghcbnmipgfaaGreatDoorA36
set_option linter.unusedSectionVars false
set_option linter.unusedSimpArgs false
set_option linter.unusedVariables false
set_option maxHeartbeats 4000000
set_option maxRecDepth 100000
namespace Go.Proofs.YtkjghcbnmipgfaaGreatDoor.Vc
open Go.RowKit Ma
def F4 : Fn := ⟨83, 4, [.tmp 8],
 (.seq
 (.reg [ii 4 (.box 0 5) [.t 0],
 ii 6 (.box 1 4) [.t 2],
 mc 8 (.bool false)])
 (.seq
 (.reg [ii 16 (.call 18) [],
 mt 9 16])
 (.seq
 (.seq
 (.reg [mv 17 9,
 ii 18 (.un .not) [.t 17]])
 (.cond (.t 18)
 (.seq
 (.reg [mc 8 (.bool false)])
 .ret)
 .skip))
 (.seq
 (.reg [ii 19 (.load 5 true false) [.t 4],
 ii 20 (.call 19) [.t 19],
 ⟨none, none, .store 5, [.t 4, .t 20]⟩])
 (.seq
 (.reg [ii 21 (.load 5 true false) [.t 4],
 mv 22 1,
 ii 23 (.call 20) [.t 21, .t 22],
 mt 10 23])
 (.seq
 (.reg [ii 25 (.load 5 true false) [.t 4],
 ii 26 (.load 4 true false) [.t 6],
 ii 27 (.call 21) [.t 25, .t 26],
 mv 24 27,
 ii 28 (.ext 0) [.t 24],
 ii 29 (.ext 1) [.t 24],
 ⟨none, none, .store 4, [.t 6, .t 28]⟩,
 mt 11 29])
 (.seq
 (.seq
 (.reg [mv 30 11,
 ii 31 (.un .not) [.t 30]])
 (.cond (.t 31)
 (.seq
 (.reg [mc 8 (.bool true)])
 .ret)
 .skip))
 (.seq
 (.reg [ii 33 (.load 5 true false) [.t 4],
 mv 34 10,
 ii 35 (.load 4 true false) [.t 6],
 ii 36 (.call 28) [.t 33, .t 34, .t 35],
 mv 32 36,
 ii 37 (.ext 0) [.t 32],
 ii 38 (.ext 1) [.t 32],
 ⟨some 12, none, .alloc 2 2 [.p (.int .i64 0), .ow 4 true []], []⟩,
 ⟨none, none, .store 2, [.t 12, .t 37]⟩,
 mt 13 38])
 (.seq
 (.reg [ii 40 (.load 5 true false) [.t 4],
 mv 41 10,
 ii 42 (.load 4 true false) [.t 6],
 ii 43 (.call 29) [.t 40, .t 41, .t 42],
 mv 39 43,
 ii 44 (.ext 0) [.t 39],
 ii 45 (.ext 1) [.t 39],
 ⟨some 14, none, .alloc 3 2 [.p (.int .i64 0), .ow 4 true []], []⟩,
 ⟨none, none, .store 2, [.t 14, .t 44]⟩,
 mt 15 45])
 (.seq
 (.regd [mv 46 13,
 mv 47 15,
 ii 48 (.eqb false) [.t 46, .t 47],
 mv 49 48,
 gt 50 49 (.at 2 (.load 2 true false)) [.t 12],
 gt 51 49 (.at 3 (.load 2 true false)) [.t 14],
 gt 52 49 (.pl (.call 24)) [.t 50, .t 51],
 ii 53 .pick [.t 49, .t 52, .c (.p (.bool false))],
 mv 54 53,
 gt 55 54 (.mov false) [.t 13],
 gt 56 54 (.un .not) [.t 55],
 gt 57 54 (.mov false) [.t 56],
 gf 58 57 (.at 0 (.load 5 true false)) [.t 4],
 gf 59 57 (.at 1 (.load 4 true false)) [.t 6],
 gf 60 57 (.at 2 (.load 2 true false)) [.t 12],
 gf 61 57 (.pl (.call 27)) [.t 58, .t 59, .t 60],
 gt 62 54 .pick [.t 57, .c (.p (.bool true)), .t 61],
 ii 63 .pick [.t 54, .t 62, .c (.p (.bool false))],
 mv 64 63,
 gt 65 64 (.mov false) [.t 3],
 gt 66 64 (.bin .gtr) [.t 65, .c (.p (.int .i64 40))],
 gt 67 64 (.mov false) [.t 66],
 gf 68 67 (.mov false) [.t 3],
 gf 69 67 (.bin .lss) [.t 68, .c (.p (.int .i64 (-40)))],
 gt 70 64 .pick [.t 67, .c (.p (.bool true)), .t 69],
 gt 71 64 (.mov false) [.t 70],
 gf 72 71 (.at 0 (.load 5 true false)) [.t 4],
 gf 73 71 (.at 1 (.load 4 true false)) [.t 6],
 gf 74 71 (.mov false) [.t 3],
 gf 75 71 (.pl (.call 30)) [.t 72, .t 73, .t 74],
 gf 76 71 (.at 0 (.load 5 true false)) [.t 4],
 gf 77 71 (.at 1 (.load 4 true false)) [.t 6],
 gf 78 71 (.mov false) [.t 3],
 gf 79 71 (.pl (.call 31)) [.t 76, .t 77, .t 78],
 gf 80 71 (.bin .eql) [.t 75, .t 79],
 gt 81 64 .pick [.t 71, .c (.p (.bool true)), .t 80],
 ii 82 .pick [.t 64, .t 81, .c (.p (.bool false))],
 mt 8 82])
 .ret))))))))))⟩
theorem k4 : chkF Tryz.prog 4 F4 = true := by kernel_rfl
theorem law4 (hbeg : PureCall Tryz.prog 18 [] (.p (.bool true))) (c : Cf) (nl : Bool) (ls : LL) (t : Tk) (n : Int) : PureCall Tryz.prog 4 [eCf c, sLL nl ls, eT t, .int .i64 n] (.p (.bool true)) := by
  have hm := maxLen_eq
  obtain ⟨d, L, hd, h19, h20, hL, hlen, hfew, heach⟩ := kept c nl ls
  have hrl := (cf_head hd).2
  have h21 := one21 d t (by omega)
  have hcut := cut_len t
  generalize t.cut = u at *
  simp only [eCf, eT] at h19 h20 h21
  cases hok : u.ok d.res.length with
  | false =>
    rw [hok] at h21
    refine Fn.run k4 rfl ?_
    generalize Tryz.prog = P at *
    (repeat' ((conv => whnf); first | exact trivial | with_reducible refine zX ?_ | refine ⟨rfl, ?_⟩ | refine ⟨_, rfl, ?_⟩ | with_reducible refine zP ?_ | with_reducible refine zL ?_ | refine ⟨fun _ => ?_, fun _ => ?_⟩ | refine zn ?_ | refine zb rfl ?_ | refine zX ?_ | refine zo rfl ?_ | refine zs ?_ | intro _)); all_goals (try (conv => whnf))
    all_goals first | rfl | exact bool_end hv
  | true =>
    rw [hok] at h21
    have hlim := lim_of hd hok
    have h28 := split28 d hd u hok false L hL hlen
    have h29 := window29 d hd u hok false L hL hlen
    have hpl := fun h => winP_plan (t := u) (L := L) hd hok hlen h
    have hwl := winP_len (t := u) (L := L) hd hok hfew
    generalize winP d u L = W at *
    have h24 := eqSame 0 true [] (by simp)
    have h24' := eqSame 2 false W (by omega)
    have h27 := fun h => may27 d hd u hok 2 false W h
    have h30 := fun (h : -1000 ≤ n ∧ n ≤ 1000) => size30 d u n ⟨hlim.l1, hlim.l2⟩ (by have := hlim.C1; have := hlim.CD; have := hlim.DT; have := hlim.T2; omega) h
    have h31 := fun (h : -1000 ≤ n ∧ n ≤ 1000) => size31 d u n ⟨hlim.l1, hlim.l2⟩ (by have := hlim.C1; have := hlim.CD; have := hlim.DT; have := hlim.T2; omega) h
    generalize sizeV u.D d.lag n = v at *
    have hv : (v == v) = true := by simp
    simp only [eCf, eT, ePl] at h28 h29 h24 h24' h27 h30 h31
    unfold planR at h28 h29
    by_cases hW : W = []
    · rw [if_pos hW] at h28 h29
      simp only [ePl] at h28 h29
      clear h24' h27
      by_cases n1 : n > 40
      · have b1 : decide (n > 40) = true := decide_eq_true n1
        clear h30 h31
        refine Fn.run k4 rfl ?_
        generalize Tryz.prog = P at *
        (repeat' ((conv => whnf); first | exact trivial | with_reducible refine zX ?_ | refine ⟨rfl, ?_⟩ | refine ⟨_, rfl, ?_⟩ | with_reducible refine zP ?_ | with_reducible refine zL ?_ | refine ⟨fun _ => ?_, fun _ => ?_⟩ | refine zn ?_ | refine zb rfl ?_ | refine zX ?_ | refine zo rfl ?_ | refine zs ?_ | intro _)); all_goals (try (conv => whnf))
        all_goals first | rfl | exact bool_end hv
      have b1 : decide (n > 40) = false := decide_eq_false n1
      by_cases n2 : n < -40
      · have b2 : decide (n < -40) = true := decide_eq_true n2
        clear h30 h31
        refine Fn.run k4 rfl ?_
        generalize Tryz.prog = P at *
        (repeat' ((conv => whnf); first | exact trivial | with_reducible refine zX ?_ | refine ⟨rfl, ?_⟩ | refine ⟨_, rfl, ?_⟩ | with_reducible refine zP ?_ | with_reducible refine zL ?_ | refine ⟨fun _ => ?_, fun _ => ?_⟩ | refine zn ?_ | refine zb rfl ?_ | refine zX ?_ | refine zo rfl ?_ | refine zs ?_ | intro _)); all_goals (try (conv => whnf))
        all_goals first | rfl | exact bool_end hv
      have b2 : decide (n < -40) = false := decide_eq_false n2
      have h30 := h30 (by omega)
      have h31 := h31 (by omega)
      refine Fn.run k4 rfl ?_
      generalize Tryz.prog = P at *
      (repeat' ((conv => whnf); first | exact trivial | with_reducible refine zX ?_ | refine ⟨rfl, ?_⟩ | refine ⟨_, rfl, ?_⟩ | with_reducible refine zP ?_ | with_reducible refine zL ?_ | refine ⟨fun _ => ?_, fun _ => ?_⟩ | refine zn ?_ | refine zb rfl ?_ | refine zX ?_ | refine zo rfl ?_ | refine zs ?_ | intro _)); all_goals (try (conv => whnf))
      all_goals first | rfl | exact bool_end hv
    · rw [if_neg hW] at h28 h29
      simp only [ePl] at h28 h29
      have h27 := h27 (by omega)
      rw [hpl hW] at h27
      by_cases n1 : n > 40
      · have b1 : decide (n > 40) = true := decide_eq_true n1
        clear h30 h31
        refine Fn.run k4 rfl ?_
        generalize Tryz.prog = P at *
        (repeat' ((conv => whnf); first | exact trivial | with_reducible refine zX ?_ | refine ⟨rfl, ?_⟩ | refine ⟨_, rfl, ?_⟩ | with_reducible refine zP ?_ | with_reducible refine zL ?_ | refine ⟨fun _ => ?_, fun _ => ?_⟩ | refine zn ?_ | refine zb rfl ?_ | refine zX ?_ | refine zo rfl ?_ | refine zs ?_ | intro _)); all_goals (try (conv => whnf))
        all_goals first | rfl | exact bool_end hv
      have b1 : decide (n > 40) = false := decide_eq_false n1
      by_cases n2 : n < -40
      · have b2 : decide (n < -40) = true := decide_eq_true n2
        clear h30 h31
        refine Fn.run k4 rfl ?_
        generalize Tryz.prog = P at *
        (repeat' ((conv => whnf); first | exact trivial | with_reducible refine zX ?_ | refine ⟨rfl, ?_⟩ | refine ⟨_, rfl, ?_⟩ | with_reducible refine zP ?_ | with_reducible refine zL ?_ | refine ⟨fun _ => ?_, fun _ => ?_⟩ | refine zn ?_ | refine zb rfl ?_ | refine zX ?_ | refine zo rfl ?_ | refine zs ?_ | intro _)); all_goals (try (conv => whnf))
        all_goals first | rfl | exact bool_end hv
      have b2 : decide (n < -40) = false := decide_eq_false n2
      have h30 := h30 (by omega)
      have h31 := h31 (by omega)
      refine Fn.run k4 rfl ?_
      generalize Tryz.prog = P at *
      (repeat' ((conv => whnf); first | exact trivial | with_reducible refine zX ?_ | refine ⟨rfl, ?_⟩ | refine ⟨_, rfl, ?_⟩ | with_reducible refine zP ?_ | with_reducible refine zL ?_ | refine ⟨fun _ => ?_, fun _ => ?_⟩ | refine zn ?_ | refine zb rfl ?_ | refine zX ?_ | refine zo rfl ?_ | refine zs ?_ | intro _)); all_goals (try (conv => whnf))
      all_goals first | rfl | exact bool_end hv
end Go.Proofs.YtkjghcbnmipgfaaGreatDoor.Vc
