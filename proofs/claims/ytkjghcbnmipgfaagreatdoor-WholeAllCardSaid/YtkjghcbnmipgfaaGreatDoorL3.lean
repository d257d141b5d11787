/- Contract of the law of number 3: it answers true. No condition. -/
import Derived.Test.YtkjghcbnmipgfaaGreatDoorA36
set_option linter.unusedSectionVars false
set_option linter.unusedSimpArgs false
set_option linter.unusedVariables false
set_option maxHeartbeats 4000000
set_option maxRecDepth 100000
namespace Go.Proofs.YtkjghcbnmipgfaaGreatDoor.Vc
open Go.RowKit Ma
def F3 : Fn := ⟨83, 5, [.tmp 10],
 (.seq
 (.reg [ii 5 (.box 0 5) [.t 0],
 ii 7 (.box 1 4) [.t 2],
 ii 9 (.box 2 3) [.t 4],
 mc 10 (.bool false)])
 (.seq
 (.reg [ii 18 (.call 18) [],
 mt 11 18])
 (.seq
 (.seq
 (.reg [mv 19 11,
 ii 20 (.un .not) [.t 19]])
 (.cond (.t 20)
 (.seq
 (.reg [mc 10 (.bool false)])
 .ret)
 .skip))
 (.seq
 (.reg [ii 21 (.load 5 true false) [.t 5],
 ii 22 (.call 19) [.t 21],
 ⟨none, none, .store 5, [.t 5, .t 22]⟩])
 (.seq
 (.reg [ii 23 (.load 5 true false) [.t 5],
 mv 24 1,
 ii 25 (.call 20) [.t 23, .t 24],
 mt 12 25])
 (.seq
 (.reg [ii 27 (.load 5 true false) [.t 5],
 ii 28 (.load 4 true false) [.t 7],
 ii 29 (.call 21) [.t 27, .t 28],
 mv 26 29,
 ii 30 (.ext 0) [.t 26],
 ii 31 (.ext 1) [.t 26],
 ⟨none, none, .store 4, [.t 7, .t 30]⟩,
 mt 13 31])
 (.seq
 (.seq
 (.reg [mv 32 13,
 ii 33 (.un .not) [.t 32],
 mv 34 33,
 gf 35 34 (.mov false) [.t 3],
 gf 36 34 (.bin .lss) [.t 35, .c (.p (.int .i64 0))],
 ii 37 .pick [.t 34, .c (.p (.bool true)), .t 36],
 mv 38 37,
 gf 39 38 (.mov false) [.t 3],
 gf 40 38 (.bin .gtr) [.t 39, .c (.p (.int .i64 1000))],
 ii 41 .pick [.t 38, .c (.p (.bool true)), .t 40]])
 (.cond (.t 41)
 (.seq
 (.reg [mc 10 (.bool true)])
 .ret)
 .skip))
 (.seq
 (.reg [mv 43 12,
 ii 44 (.load 4 true false) [.t 7],
 mv 45 3,
 ii 46 (.call 22) [.t 43, .t 44, .t 45],
 mv 42 46,
 ii 47 (.ext 0) [.t 42],
 ii 48 (.ext 1) [.t 42],
 ⟨some 14, none, .alloc 3 2 [.p (.int .i64 0), .ow 4 true []], []⟩,
 ⟨none, none, .store 2, [.t 14, .t 47]⟩,
 mt 15 48])
 (.seq
 (.reg [mv 50 12,
 ii 51 (.load 4 true false) [.t 7],
 mv 52 3,
 ii 53 (.call 23) [.t 50, .t 51, .t 52],
 mv 49 53,
 ii 54 (.ext 0) [.t 49],
 ii 55 (.ext 1) [.t 49],
 ⟨some 16, none, .alloc 4 2 [.p (.int .i64 0), .ow 4 true []], []⟩,
 ⟨none, none, .store 2, [.t 16, .t 54]⟩,
 mt 17 55])
 (.seq
 (.regd [mv 56 15,
 mv 57 17,
 ii 58 (.eqb false) [.t 56, .t 57],
 mv 59 58,
 gt 60 59 (.at 3 (.load 2 true false)) [.t 14],
 gt 61 59 (.at 4 (.load 2 true false)) [.t 16],
 gt 62 59 (.pl (.call 24)) [.t 60, .t 61],
 ii 63 .pick [.t 59, .t 62, .c (.p (.bool false))],
 mv 64 63,
 gt 65 64 (.mov false) [.t 12],
 gt 66 64 (.at 2 (.load 3 true false)) [.t 9],
 gt 67 64 (.pl (.call 25)) [.t 65, .t 66],
 gt 68 64 (.mov false) [.t 12],
 gt 69 64 (.at 2 (.load 3 true false)) [.t 9],
 gt 70 64 (.pl (.call 26)) [.t 68, .t 69],
 gt 71 64 (.bin .eql) [.t 67, .t 70],
 ii 72 .pick [.t 64, .t 71, .c (.p (.bool false))],
 mv 73 72,
 gt 74 73 (.mov false) [.t 15],
 gt 75 73 (.un .not) [.t 74],
 gt 76 73 (.mov false) [.t 75],
 gf 77 76 (.at 0 (.load 5 true false)) [.t 5],
 gf 78 76 (.at 1 (.load 4 true false)) [.t 7],
 gf 79 76 (.at 3 (.load 2 true false)) [.t 14],
 gf 80 76 (.pl (.call 27)) [.t 77, .t 78, .t 79],
 gt 81 73 .pick [.t 76, .c (.p (.bool true)), .t 80],
 ii 82 .pick [.t 73, .t 81, .c (.p (.bool false))],
 mt 10 82])
 .ret))))))))))⟩
theorem k3 : chkF Tryz.prog 3 F3 = true := by kernel_rfl
theorem wholeP_plan {d : Cf} {t : Tk} {n k : Int} (hd : d.ok = true) (ht : t.ok n = true) (h2 : k < d.cores) (hw : wholeP k t.D t.C ≠ []) : planB d.cores d.lag d.move t.C t.D t.secs.length 1 (wholeP k t.D t.C) = true := by
  unfold wholeP at hw ⊢
  split at hw
  · exact absurd rfl hw
  · rename_i hk
    rw [if_neg hk, planB_iff]
    exact whole_plan (lim_of hd ht) (by omega) h2
theorem wholeP_len (k D C : Int) : (wholeP k D C).length ≤ 1 := by unfold wholeP; split <;> simp
theorem law3 (hbeg : PureCall Tryz.prog 18 [] (.p (.bool true))) (c : Cf) (nl : Bool) (ls : LL) (t : Tk) (w : Int) (x : Ld) : PureCall Tryz.prog 3 [eCf c, sLL nl ls, eT t, .int .i64 w, eL x] (.p (.bool true)) := by
  have hm := maxLen_eq
  obtain ⟨d, L, hd, h19, h20, hL, hlen, hfew, _⟩ := kept c nl ls
  have hrl := (cf_head hd).2
  have h21 := one21 d t (by omega)
  have hcut := cut_len t
  generalize t.cut = u at *
  have h25 := core25 false L hL x
  have h26 := core26 false L hL x
  generalize coreV (L.map (·.2)) x = v at *
  have hv : (v == v) = true := by simp
  simp only [eCf, eT, eL] at h19 h20 h21 h25 h26
  cases hok : u.ok d.res.length with
  | false =>
    rw [hok] at h21
    refine Fn.run k3 rfl ?_
    generalize Tryz.prog = P at *
    (repeat' ((conv => whnf); first | exact trivial | with_reducible refine zX ?_ | refine ⟨rfl, ?_⟩ | refine ⟨_, rfl, ?_⟩ | with_reducible refine zP ?_ | with_reducible refine zL ?_ | refine ⟨fun _ => ?_, fun _ => ?_⟩ | refine zn ?_ | refine zb rfl ?_ | refine zX ?_ | refine zo rfl ?_ | refine zs ?_ | intro _)); all_goals (try (conv => whnf))
    all_goals rfl
  | true =>
    rw [hok] at h21
    obtain ⟨t1, t2, t3, t4, _⟩ := tk_head hok
    by_cases hw : 0 ≤ w ∧ w ≤ 1000
    case neg =>
      have hno : (decide (w < 0) || decide (w > 1000)) = true := by simp; omega
      by_cases w1 : w < 0
      · have b1 : decide (w < 0) = true := decide_eq_true w1
        refine Fn.run k3 rfl ?_
        generalize Tryz.prog = P at *
        (repeat' ((conv => whnf); first | exact trivial | with_reducible refine zX ?_ | refine ⟨rfl, ?_⟩ | refine ⟨_, rfl, ?_⟩ | with_reducible refine zP ?_ | with_reducible refine zL ?_ | refine ⟨fun _ => ?_, fun _ => ?_⟩ | refine zn ?_ | refine zb rfl ?_ | refine zX ?_ | refine zo rfl ?_ | refine zs ?_ | intro _)); all_goals (try (conv => whnf))
        all_goals rfl
      · have b1 : decide (w < 0) = false := decide_eq_false w1
        have b2 : decide (w > 1000) = true := decide_eq_true (by omega)
        refine Fn.run k3 rfl ?_
        generalize Tryz.prog = P at *
        (repeat' ((conv => whnf); first | exact trivial | with_reducible refine zX ?_ | refine ⟨rfl, ?_⟩ | refine ⟨_, rfl, ?_⟩ | with_reducible refine zP ?_ | with_reducible refine zL ?_ | refine ⟨fun _ => ?_, fun _ => ?_⟩ | refine zn ?_ | refine zb rfl ?_ | refine zX ?_ | refine zo rfl ?_ | refine zs ?_ | intro _)); all_goals (try (conv => whnf))
        all_goals rfl
    have b1 : decide (w < 0) = false := decide_eq_false (by omega)
    have b2 : decide (w > 1000) = false := decide_eq_false (by omega)
    have h22 := place22 false L hL u w (by omega) (by omega)
    have h23 := whole23 false L hL u w (by omega) (by omega)
    have hge := coreV_ge ⟨u.C + w, u.D, u.T⟩ (L.map (·.2))
    rw [List.length_map] at hge
    have hpl := fun h => wholeP_plan (k := coreV (L.map (·.2)) ⟨u.C + w, u.D, u.T⟩) hd hok (by omega) h
    have hwl := wholeP_len (coreV (L.map (·.2)) ⟨u.C + w, u.D, u.T⟩) u.D u.C
    generalize wholeP (coreV (L.map (·.2)) ⟨u.C + w, u.D, u.T⟩) u.D u.C = W at *
    have h24 := eqSame 0 true [] (by simp)
    have h24' := eqSame 1 false W (by omega)
    have h27 := fun h => may27 d hd u hok 1 false W h
    simp only [eCf, eT, ePl] at h22 h23 h24 h24' h27
    unfold planR at h22 h23
    by_cases hW : W = []
    · rw [if_pos hW] at h22 h23
      simp only [ePl] at h22 h23
      clear h24' h27
      have z1 : (false == false) = true := rfl
      refine Fn.run k3 rfl ?_
      generalize Tryz.prog = P at *
      (repeat' ((conv => whnf); first | exact trivial | with_reducible refine zX ?_ | refine ⟨rfl, ?_⟩ | refine ⟨_, rfl, ?_⟩ | with_reducible refine zP ?_ | with_reducible refine zL ?_ | refine ⟨fun _ => ?_, fun _ => ?_⟩ | refine zn ?_ | refine zb rfl ?_ | refine zX ?_ | refine zo rfl ?_ | refine zs ?_ | intro _)); all_goals (try (conv => whnf))
      all_goals rfl
    · rw [if_neg hW] at h22 h23
      simp only [ePl] at h22 h23
      have h27 := h27 (by omega)
      rw [hpl hW] at h27
      have z1 : (true == true) = true := rfl
      refine Fn.run k3 rfl ?_
      generalize Tryz.prog = P at *
      (repeat' ((conv => whnf); first | exact trivial | with_reducible refine zX ?_ | refine ⟨rfl, ?_⟩ | refine ⟨_, rfl, ?_⟩ | with_reducible refine zP ?_ | with_reducible refine zL ?_ | refine ⟨fun _ => ?_, fun _ => ?_⟩ | refine zn ?_ | refine zb rfl ?_ | refine zX ?_ | refine zo rfl ?_ | refine zs ?_ | intro _)); all_goals (try (conv => whnf))
      all_goals rfl
end Go.Proofs.YtkjghcbnmipgfaaGreatDoor.Vc
