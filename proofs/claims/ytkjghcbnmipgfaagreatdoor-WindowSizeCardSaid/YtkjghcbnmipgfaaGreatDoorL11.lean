/- Contract of the law of number 11: it answers true. No condition. -/
import Derived.Test.YtkjghcbnmipgfaaGreatDoorA36
set_option linter.unusedSectionVars false
set_option linter.unusedSimpArgs false
set_option linter.unusedVariables false
set_option maxHeartbeats 4000000
set_option maxRecDepth 100000
namespace Go.Proofs.YtkjghcbnmipgfaaGreatDoor.Vc
open Go.RowKit Ma
def F11 : Fn := ⟨77, 2, [.tmp 6],
 (.seq
 (.reg [ii 3 (.box 0 5) [.t 0],
 ii 4 (.box 1 4) [.t 1],
 mc 6 (.bool false)])
 (.seq
 (.reg [ii 11 (.call 18) [],
 mt 7 11])
 (.seq
 (.seq
 (.reg [mv 12 7,
 ii 13 (.un .not) [.t 12]])
 (.cond (.t 13)
 (.seq
 (.reg [mc 6 (.bool false)])
 .ret)
 .skip))
 (.seq
 (.reg [ii 14 (.load 5 true false) [.t 3],
 ii 15 (.call 19) [.t 14],
 ⟨none, none, .store 5, [.t 3, .t 15]⟩])
 (.seq
 (.reg [ii 17 (.load 5 true false) [.t 3],
 ii 18 (.load 4 true false) [.t 4],
 ii 19 (.call 21) [.t 17, .t 18],
 mv 16 19,
 ii 20 (.ext 0) [.t 16],
 ii 21 (.ext 1) [.t 16],
 ⟨none, none, .store 4, [.t 4, .t 20]⟩,
 mt 8 21])
 (.seq
 (.seq
 (.reg [mv 22 8,
 ii 23 (.un .not) [.t 22],
 mv 24 23,
 gf 25 24 (.mov false) [.t 2],
 gf 26 24 (.bin .gtr) [.t 25, .c (.p (.int .i64 30))],
 ii 27 .pick [.t 24, .c (.p (.bool true)), .t 26],
 mv 28 27,
 gf 29 28 (.mov false) [.t 2],
 gf 30 28 (.bin .lss) [.t 29, .c (.p (.int .i64 (-5)))],
 ii 31 .pick [.t 28, .c (.p (.bool true)), .t 30]])
 (.cond (.t 31)
 (.seq
 (.reg [mc 6 (.bool true)])
 .ret)
 .skip))
 (.seq
 (.reg [ii 32 (.load 5 true false) [.t 3],
 ii 33 (.load 4 true false) [.t 4],
 mv 34 2,
 ii 35 (.call 30) [.t 32, .t 33, .t 34],
 mt 9 35])
 (.seq
 (.seq
 (.reg [mv 36 2,
 b1 37 .lss 36 (.int .i64 1),
 mv 38 37,
 gf 39 38 (.fad 1) [.t 4],
 gf 40 38 (.load 1 false false) [.t 39],
 gf 41 38 (.mov false) [.t 2],
 gf 42 38 (.bin .sub) [.t 41, .c (.p (.int .i64 1))],
 gf 43 38 (.fad 2) [.t 3],
 gf 44 38 (.load 1 false false) [.t 43],
 gf 45 38 (.bin .mul) [.t 42, .t 44],
 gf 46 38 (.bin .sub) [.t 40, .t 45],
 gf 47 38 (.mov false) [.t 2],
 gf 48 38 (.bin .lss) [.t 46, .t 47],
 ii 49 .pick [.t 38, .c (.p (.bool true)), .t 48]])
 (.cond (.t 49)
 (.seq
 (.reg [mv 50 9,
 b1 51 .eql 50 (.int .i64 0),
 mt 6 51])
 .ret)
 .skip))
 (.seq
 (.reg [mv 52 2,
 mv 53 9,
 b2 54 .mul 52 53,
 mv 55 2,
 b1 56 .sub 55 (.int .i64 1),
 fa 57 2 3,
 ld 58 57,
 b2 59 .mul 56 58,
 b2 60 .add 54 59,
 mt 10 60])
 (.seq
 (.reg [mv 61 9,
 b1 62 .geq 61 (.int .i64 1),
 mv 63 62,
 gt 64 63 (.mov false) [.t 10],
 gt 65 63 (.fad 1) [.t 4],
 gt 66 63 (.load 1 false false) [.t 65],
 gt 67 63 (.bin .leq) [.t 64, .t 66],
 ii 68 .pick [.t 63, .t 67, .c (.p (.bool false))],
 mv 69 68,
 gt 70 69 (.mov false) [.t 10],
 gt 71 69 (.mov false) [.t 2],
 gt 72 69 (.bin .add) [.t 70, .t 71],
 gt 73 69 (.fad 1) [.t 4],
 gt 74 69 (.load 1 false false) [.t 73],
 gt 75 69 (.bin .gtr) [.t 72, .t 74],
 ii 76 .pick [.t 69, .t 75, .c (.p (.bool false))],
 mt 6 76])
 .ret))))))))))⟩
theorem k11 : chkF Tryz.prog 11 F11 = true := by kernel_rfl
theorem law11 (hbeg : PureCall Tryz.prog 18 [] (.p (.bool true))) (c : Cf) (t : Tk) (n : Int) : PureCall Tryz.prog 11 [eCf c, eT t, .int .i64 n] (.p (.bool true)) := by
  have hm := maxLen_eq
  obtain ⟨d, L0, hd, h19, -, -, -, -, -⟩ := kept c true []
  have hrl := (cf_head hd).2
  have h21 := one21 d t (by omega)
  have hcut := cut_len t
  generalize t.cut = u at *
  simp only [eCf, eT] at h19 h21
  cases hok : u.ok d.res.length with
  | false =>
    rw [hok] at h21
    refine Fn.run k11 rfl ?_
    generalize Tryz.prog = P at *
    (repeat' ((conv => whnf); first | exact trivial | with_reducible refine zX ?_ | refine ⟨rfl, ?_⟩ | refine ⟨_, rfl, ?_⟩ | with_reducible refine zP ?_ | with_reducible refine zL ?_ | refine ⟨fun _ => ?_, fun _ => ?_⟩ | refine zn ?_ | refine zb rfl ?_ | refine zX ?_ | refine zo rfl ?_ | refine zs ?_ | intro _)); all_goals (try (conv => whnf))
    all_goals rfl
  | true =>
    rw [hok] at h21
    have hlim := lim_of hd hok
    have h30 := fun (h : -1000 ≤ n ∧ n ≤ 1000) => size30 d u n ⟨hlim.l1, hlim.l2⟩ (by have := hlim.C1; have := hlim.CD; have := hlim.DT; have := hlim.T2; omega) h
    obtain ⟨c1, c2, l1, l2, m1, m2, C1, CD, DT, T2⟩ := hlim
    simp only [eCf, eT] at h30
    by_cases n1 : n > 30
    · have b1 : decide (n > 30) = true := decide_eq_true n1
      clear h30
      refine Fn.run k11 rfl ?_
      generalize Tryz.prog = P at *
      (repeat' ((conv => whnf); first | exact trivial | with_reducible refine zX ?_ | refine ⟨rfl, ?_⟩ | refine ⟨_, rfl, ?_⟩ | with_reducible refine zP ?_ | with_reducible refine zL ?_ | refine ⟨fun _ => ?_, fun _ => ?_⟩ | refine zn ?_ | refine zb rfl ?_ | refine zX ?_ | refine zo rfl ?_ | refine zs ?_ | intro _)); all_goals (try (conv => whnf))
      all_goals rfl
    have b1 : decide (n > 30) = false := decide_eq_false n1
    by_cases n2 : n < -5
    · have b2 : decide (n < -5) = true := decide_eq_true n2
      clear h30
      refine Fn.run k11 rfl ?_
      generalize Tryz.prog = P at *
      (repeat' ((conv => whnf); first | exact trivial | with_reducible refine zX ?_ | refine ⟨rfl, ?_⟩ | refine ⟨_, rfl, ?_⟩ | with_reducible refine zP ?_ | with_reducible refine zL ?_ | refine ⟨fun _ => ?_, fun _ => ?_⟩ | refine zn ?_ | refine zb rfl ?_ | refine zX ?_ | refine zo rfl ?_ | refine zs ?_ | intro _)); all_goals (try (conv => whnf))
      all_goals rfl
    have b2 : decide (n < -5) = false := decide_eq_false n2
    have h30 := h30 (by omega)
    have hp := lag_prod (lag := d.lag) (n := n) ⟨l1, l2⟩ (by omega)
    have v1 : IntKind.wrap .i64 (u.D - IntKind.wrap .i64 (IntKind.wrap .i64 (n - 1) * d.lag)) = u.D - (n - 1) * d.lag := by
      rw [wrapE (n := n - 1) (by omega) (by omega), wrapE (n := (n - 1) * d.lag) (by omega) (by omega), wrapE (by omega) (by omega)]
    by_cases n3 : n < 1
    · have b3 : decide (n < 1) = true := decide_eq_true n3
      have e0 : sizeV u.D d.lag n = 0 := by unfold sizeV; rw [if_pos (.inl n3)]
      rw [e0] at h30
      have z0 : ((0 : Int) == 0) = true := rfl
      refine Fn.run k11 rfl ?_
      generalize Tryz.prog = P at *
      (repeat' ((conv => whnf); first | exact trivial | with_reducible refine zX ?_ | refine ⟨rfl, ?_⟩ | refine ⟨_, rfl, ?_⟩ | with_reducible refine zP ?_ | with_reducible refine zL ?_ | refine ⟨fun _ => ?_, fun _ => ?_⟩ | refine zn ?_ | refine zb rfl ?_ | refine zX ?_ | refine zo rfl ?_ | refine zs ?_ | intro _)); all_goals (try (conv => whnf))
      all_goals first | rfl | exact bool_end z0
    have b3 : decide (n < 1) = false := decide_eq_false n3
    by_cases n4 : u.D - (n - 1) * d.lag < n
    · have b4 : decide (IntKind.wrap .i64 (u.D - IntKind.wrap .i64 (IntKind.wrap .i64 (n - 1) * d.lag)) < n) = true := decide_eq_true (by rw [v1]; exact n4)
      have e0 : sizeV u.D d.lag n = 0 := by unfold sizeV; rw [if_pos (.inr n4)]
      rw [e0] at h30
      have z0 : ((0 : Int) == 0) = true := rfl
      refine Fn.run k11 rfl ?_
      generalize Tryz.prog = P at *
      (repeat' ((conv => whnf); first | exact trivial | with_reducible refine zX ?_ | refine ⟨rfl, ?_⟩ | refine ⟨_, rfl, ?_⟩ | with_reducible refine zP ?_ | with_reducible refine zL ?_ | refine ⟨fun _ => ?_, fun _ => ?_⟩ | refine zn ?_ | refine zb rfl ?_ | refine zX ?_ | refine zo rfl ?_ | refine zs ?_ | intro _)); all_goals (try (conv => whnf))
      all_goals first | rfl | exact bool_end z0
    have b4 : decide (IntKind.wrap .i64 (u.D - IntKind.wrap .i64 (IntKind.wrap .i64 (n - 1) * d.lag)) < n) = false := decide_eq_false (by rw [v1]; exact n4)
    have hne : sizeV u.D d.lag n ≠ 0 := by
      unfold sizeV
      rw [if_neg (by omega)]
      have : 1 ≤ (u.D - (n - 1) * d.lag) / n := Int.le_ediv_of_mul_le (by omega) (by omega)
      omega
    obtain ⟨s1, s2, s3, s4⟩ := sizeV_bound hne
    generalize sizeV u.D d.lag n = w at *
    have hp2 : 0 ≤ n * w := Int.mul_nonneg (by omega) (by omega)
    have hp3 : 0 ≤ (n - 1) * d.lag := Int.mul_nonneg (by omega) l1
    have v2 : IntKind.wrap .i64 (IntKind.wrap .i64 (n * w) + IntKind.wrap .i64 (IntKind.wrap .i64 (n - 1) * d.lag)) = n * w + (n - 1) * d.lag := by
      rw [wrapE (n := n - 1) (by omega) (by omega), wrapE (n := (n - 1) * d.lag) (by omega) (by omega), wrapE (n := n * w) (by omega) (by omega), wrapE (by omega) (by omega)]
    have b5 : decide (w ≥ 1) = true := decide_eq_true (by omega)
    have b6 : decide (IntKind.wrap .i64 (IntKind.wrap .i64 (n * w) + IntKind.wrap .i64 (IntKind.wrap .i64 (n - 1) * d.lag)) ≤ u.D) = true := decide_eq_true (by rw [v2]; omega)
    have b7 : decide (IntKind.wrap .i64 (IntKind.wrap .i64 (IntKind.wrap .i64 (n * w) + IntKind.wrap .i64 (IntKind.wrap .i64 (n - 1) * d.lag)) + n) > u.D) = true := decide_eq_true (by rw [v2, wrapE (by omega) (by omega)]; omega)
    refine Fn.run k11 rfl ?_
    generalize Tryz.prog = P at *
    (repeat' ((conv => whnf); first | exact trivial | with_reducible refine zX ?_ | refine ⟨rfl, ?_⟩ | refine ⟨_, rfl, ?_⟩ | with_reducible refine zP ?_ | with_reducible refine zL ?_ | refine ⟨fun _ => ?_, fun _ => ?_⟩ | refine zn ?_ | refine zb rfl ?_ | refine zX ?_ | refine zo rfl ?_ | refine zs ?_ | intro _)); all_goals (try (conv => whnf))
    all_goals first | rfl | exact bool_end b7
end Go.Proofs.YtkjghcbnmipgfaaGreatDoor.Vc
