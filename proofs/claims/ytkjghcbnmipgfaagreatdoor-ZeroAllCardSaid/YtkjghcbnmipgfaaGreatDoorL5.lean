/- Contract of the law of number 5: it answers true. No condition. -/
import Derived.Test.YtkjghcbnmipgfaaGreatDoorA36
set_option linter.unusedSectionVars false
set_option linter.unusedSimpArgs false
set_option linter.unusedVariables false
set_option maxHeartbeats 4000000
set_option maxRecDepth 100000
namespace Go.Proofs.YtkjghcbnmipgfaaGreatDoor.Vc
open Go.RowKit Ma
def F5 : Fn := ⟨62, 4, [.tmp 6],
 (.seq
 (.reg [ii 3 (.box 0 5) [.t 0],
 ii 5 (.box 1 4) [.t 2],
 mc 6 (.bool false)])
 (.seq
 (.reg [ii 14 (.call 18) [],
 mt 7 14])
 (.seq
 (.seq
 (.reg [mv 15 7,
 ii 16 (.un .not) [.t 15]])
 (.cond (.t 16)
 (.seq
 (.reg [mc 6 (.bool false)])
 .ret)
 .skip))
 (.seq
 (.reg [ii 17 (.load 5 true false) [.t 3],
 ii 18 (.call 19) [.t 17],
 ⟨none, none, .store 5, [.t 3, .t 18]⟩])
 (.seq
 (.reg [ii 19 (.load 5 true false) [.t 3],
 mv 20 1,
 ii 21 (.call 20) [.t 19, .t 20],
 mt 8 21])
 (.seq
 (.reg [ii 23 (.load 5 true false) [.t 3],
 ii 24 (.load 4 true false) [.t 5],
 ii 25 (.call 21) [.t 23, .t 24],
 mv 22 25,
 ii 26 (.ext 0) [.t 22],
 ii 27 (.ext 1) [.t 22],
 ⟨none, none, .store 4, [.t 5, .t 26]⟩,
 mt 9 27])
 (.seq
 (.seq
 (.reg [mv 28 9,
 ii 29 (.un .not) [.t 28]])
 (.cond (.t 29)
 (.seq
 (.reg [mc 6 (.bool true)])
 .ret)
 .skip))
 (.seq
 (.reg [ii 31 (.load 5 true false) [.t 3],
 mv 32 8,
 ii 33 (.load 4 true false) [.t 5],
 ii 34 (.call 32) [.t 31, .t 32, .t 33],
 mv 30 34,
 ii 35 (.ext 0) [.t 30],
 ii 36 (.ext 1) [.t 30],
 ⟨some 10, none, .alloc 2 2 [.p (.int .i64 0), .ow 4 true []], []⟩,
 ⟨none, none, .store 2, [.t 10, .t 35]⟩,
 mt 11 36])
 (.seq
 (.reg [ii 38 (.load 5 true false) [.t 3],
 mv 39 8,
 ii 40 (.load 4 true false) [.t 5],
 ii 41 (.call 33) [.t 38, .t 39, .t 40],
 mv 37 41,
 ii 42 (.ext 0) [.t 37],
 ii 43 (.ext 1) [.t 37],
 ⟨some 12, none, .alloc 3 2 [.p (.int .i64 0), .ow 4 true []], []⟩,
 ⟨none, none, .store 2, [.t 12, .t 42]⟩,
 mt 13 43])
 (.seq
 (.reg [mv 44 11,
 mv 45 13,
 ii 46 (.eqb false) [.t 44, .t 45],
 mv 47 46,
 gt 48 47 (.load 2 true false) [.t 10],
 gt 49 47 (.load 2 true false) [.t 12],
 gt 50 47 (.call 24) [.t 48, .t 49],
 ii 51 .pick [.t 47, .t 50, .c (.p (.bool false))],
 mv 52 51,
 gt 53 52 (.mov false) [.t 11],
 gt 54 52 (.un .not) [.t 53],
 gt 55 52 (.mov false) [.t 54],
 gf 56 55 (.load 5 true false) [.t 3],
 gf 57 55 (.load 4 true false) [.t 5],
 gf 58 55 (.load 2 true false) [.t 10],
 gf 59 55 (.call 27) [.t 56, .t 57, .t 58],
 gt 60 52 .pick [.t 55, .c (.p (.bool true)), .t 59],
 ii 61 .pick [.t 52, .t 60, .c (.p (.bool false))],
 mt 6 61])
 .ret))))))))))⟩
theorem k5 : chkF Tryz.prog 5 F5 = true := by kernel_rfl
theorem law5 (hbeg : PureCall Tryz.prog 18 [] (.p (.bool true))) (c : Cf) (nl : Bool) (ls : LL) (t : Tk) : PureCall Tryz.prog 5 [eCf c, sLL nl ls, eT t] (.p (.bool true)) := by
  have hm := maxLen_eq
  obtain ⟨d, L, hd, h19, h20, hL, hlen, hfew, heach⟩ := kept c nl ls
  have hrl := (cf_head hd).2
  have h21 := one21 d t (by omega)
  have hcut := cut_len t
  generalize t.cut = u at *
  simp only [eCf, eT] at h19 h20 h21
  cases hok : u.ok d.res.length with
  | false =>
    rw [hok] at h21
    refine Fn.run k5 rfl ?_
    generalize Tryz.prog = P at *
    (repeat' ((conv => whnf); first | exact trivial | with_reducible refine zX ?_ | refine ⟨rfl, ?_⟩ | refine ⟨_, rfl, ?_⟩ | with_reducible refine zP ?_ | with_reducible refine zL ?_ | refine ⟨fun _ => ?_, fun _ => ?_⟩ | refine zn ?_ | refine zb rfl ?_ | refine zX ?_ | refine zo rfl ?_ | refine zs ?_ | intro _)); all_goals (try (conv => whnf))
    all_goals first | rfl | exact bool_end hv
  | true =>
    rw [hok] at h21
    have hlim := lim_of hd hok
    have h32 := zero32 d hd u hok false L hL hlen
    have h33 := zero33 d hd u hok false L hL hlen
    have hpl := fun h => zerP_plan (t := u) (L := L) hd hok hlen h
    have hwl := zerP_len (d := d) (t := u) (L := L)
    generalize zerP d u L = W at *
    have h24 := eqSame 0 true [] (by simp)
    have h24' := eqSame 3 false W (by omega)
    have h27 := fun h => may27 d hd u hok 3 false W h
    simp only [eCf, eT, ePl] at h32 h33 h24 h24' h27
    unfold planR at h32 h33
    by_cases hW : W = []
    · rw [if_pos hW] at h32 h33
      simp only [ePl] at h32 h33
      clear h24' h27
      refine Fn.run k5 rfl ?_
      generalize Tryz.prog = P at *
      (repeat' ((conv => whnf); first | exact trivial | with_reducible refine zX ?_ | refine ⟨rfl, ?_⟩ | refine ⟨_, rfl, ?_⟩ | with_reducible refine zP ?_ | with_reducible refine zL ?_ | refine ⟨fun _ => ?_, fun _ => ?_⟩ | refine zn ?_ | refine zb rfl ?_ | refine zX ?_ | refine zo rfl ?_ | refine zs ?_ | intro _)); all_goals (try (conv => whnf))
      all_goals first | rfl | exact bool_end hv
    · rw [if_neg hW] at h32 h33
      simp only [ePl] at h32 h33
      have h27 := h27 (by omega)
      rw [hpl hW] at h27
      refine Fn.run k5 rfl ?_
      generalize Tryz.prog = P at *
      (repeat' ((conv => whnf); first | exact trivial | with_reducible refine zX ?_ | refine ⟨rfl, ?_⟩ | refine ⟨_, rfl, ?_⟩ | with_reducible refine zP ?_ | with_reducible refine zL ?_ | refine ⟨fun _ => ?_, fun _ => ?_⟩ | refine zn ?_ | refine zb rfl ?_ | refine zX ?_ | refine zo rfl ?_ | refine zs ?_ | intro _)); all_goals (try (conv => whnf))
      all_goals first | rfl | exact bool_end hv
end Go.Proofs.YtkjghcbnmipgfaaGreatDoor.Vc
