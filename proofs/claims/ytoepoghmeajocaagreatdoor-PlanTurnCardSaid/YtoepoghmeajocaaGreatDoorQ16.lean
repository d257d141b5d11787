/- Part of a proof over a Go program: Lpt0, LptS2, LptS3, LptS4. No condition. -/
import Derived.Test.YtoepoghmeajocaaGreatDoorQ15
set_option linter.unnecessarySimpa false
set_option linter.unusedSectionVars false
set_option linter.unusedSimpArgs false
set_option linter.unusedVariables false
set_option maxHeartbeats 40000000
set_option maxRecDepth 100000
namespace Go.Proofs.YtoepoghmeajocaaGreatDoor.Vc
open Go.RowKit Ma
def F3 : Fn := ⟨157, 3, [.tmp 10],
 (.seq
 (.reg [ii 5 (.box 0 5) [.t 0],
 ii 7 (.box 1 4) [.t 2],
 mc 10 (.bool false)])
 (.seq
 (.reg [ii 17 (.call 15) [],
 mt 11 17])
 (.seq
 (.seq
 (.reg [mv 18 11,
 ii 19 (.un .not) [.t 18]])
 (.cond (.t 19)
 (.seq
 (.reg [mc 10 (.bool false)])
 .ret)
 .skip))
 (.seq
 (.reg [ii 20 (.load 5 true false) [.t 5],
 ii 21 (.call 16) [.t 20],
 ⟨none, none, .store 5, [.t 5, .t 21]⟩])
 (.seq
 (.reg [ii 22 (.load 5 true false) [.t 5],
 mv 23 1,
 ii 24 (.call 17) [.t 22, .t 23],
 mt 12 24])
 (.seq
 (.reg [ii 26 (.load 5 true false) [.t 5],
 ii 27 (.load 4 true false) [.t 7],
 ii 28 (.call 18) [.t 26, .t 27],
 mv 25 28,
 ii 29 (.ext 0) [.t 25],
 ii 30 (.ext 1) [.t 25],
 ⟨none, none, .store 4, [.t 7, .t 29]⟩,
 mt 13 30])
 (.seq
 (.seq
 (.reg [mv 31 13,
 ii 32 (.un .not) [.t 31]])
 (.cond (.t 32)
 (.seq
 (.reg [mc 10 (.bool true)])
 .ret)
 .skip))
 (.seq
 (.reg [ii 34 (.load 5 true false) [.t 5],
 mv 35 12,
 ii 36 (.load 4 true false) [.t 7],
 ii 37 (.call 19) [.t 34, .t 35, .t 36],
 mv 33 37,
 ii 38 (.ext 0) [.t 33],
 ii 39 (.ext 1) [.t 33],
 ⟨some 14, none, .alloc 2 2 [.p (.int .i64 0), .ow 4 true []], []⟩,
 ⟨none, none, .store 2, [.t 14, .t 38]⟩,
 mt 15 39])
 (.seq
 (.seq
 (.reg [mv 40 15,
 ii 41 (.un .not) [.t 40]])
 (.cond (.t 41)
 (.reg [ii 43 (.load 5 true false) [.t 5],
 mv 44 12,
 ii 45 (.load 4 true false) [.t 7],
 ii 46 (.call 20) [.t 43, .t 44, .t 45],
 mv 42 46,
 ii 47 (.ext 0) [.t 42],
 ii 48 (.ext 1) [.t 42],
 ⟨none, none, .store 2, [.t 14, .t 47]⟩,
 mt 15 48])
 .skip))
 (.seq
 (.seq
 (.reg [mv 49 15,
 ii 50 (.un .not) [.t 49]])
 (.cond (.t 50)
 (.reg [mv 52 12,
 ii 53 (.load 4 true false) [.t 7],
 ii 54 (.call 21) [.t 52, .t 53, .c (.p (.int .i64 0))],
 mv 51 54,
 ii 55 (.ext 0) [.t 51],
 ii 56 (.ext 1) [.t 51],
 ⟨none, none, .store 2, [.t 14, .t 55]⟩,
 mt 15 56])
 .skip))
 (.seq
 (.seq
 (.reg [mv 57 15,
 ii 58 (.un .not) [.t 57],
 mv 59 58,
 gf 60 59 (.fad 1) [.t 14],
 gf 61 59 (.load 1 false false) [.t 60],
 gf 62 59 .len [.t 61],
 gf 63 59 (.bin .eql) [.t 62, .c (.p (.int .i64 0))],
 ii 64 .pick [.t 59, .c (.p (.bool true)), .t 63]])
 (.cond (.t 64)
 (.seq
 (.reg [mv 65 15,
 ii 66 (.un .not) [.t 65],
 mt 10 66])
 .ret)
 .skip))
 (.seq
 (.reg [fa 67 1 14,
 ld 68 67,
 ii 69 (.ob (.appd 4 32 true)) [.c (.p (.sl 4 true [])), .t 68],
 fa 70 1 14,
 ⟨none, none, .store 1, [.t 70, .t 69]⟩])
 (.seq
 (.reg [fa 71 1 14,
 ld 72 71,
 fa 73 1 14,
 ld 74 73,
 ii 75 .len [.t 74],
 b1 76 .sub 75 (.int .i64 1),
 ii 77 (.iad 4) [.t 72, .t 76],
 mt 16 77])
 (.seq
 (.reg [mv 78 4,
 b1 79 .and 78 (.int .i64 7),
 mt 4 79])
 (.seq
 (.seq
 (.reg [mv 80 3,
 b1 81 .and 80 (.int .i64 7)])
 (.block 0
 (.seq
 (.reg [b1 88 .eql 81 (.int .i64 0),
 mt 87 88])
 (.cond (.t 87)
 (.reg [mv 89 16,
 ii 90 .nilchk [.t 89],
 fa 91 3 90,
 ld 92 91,
 mv 93 4,
 b1 94 .sub 93 (.int .i64 3),
 b2 95 .add 92 94,
 ii 96 .nilchk [.t 89],
 fa 97 3 96,
 ⟨none, none, .store 1, [.t 97, .t 95]⟩])
 (.seq
 (.reg [b1 99 .eql 81 (.int .i64 1),
 mt 98 99])
 (.cond (.t 98)
 (.reg [mv 100 16,
 ii 101 .nilchk [.t 100],
 fa 102 2 101,
 ld 103 102,
 mv 104 4,
 b1 105 .sub 104 (.int .i64 3),
 b2 106 .add 103 105,
 ii 107 .nilchk [.t 100],
 fa 108 2 107,
 ⟨none, none, .store 1, [.t 108, .t 106]⟩])
 (.seq
 (.reg [b1 110 .eql 81 (.int .i64 2),
 mt 109 110])
 (.cond (.t 109)
 (.reg [mv 111 16,
 ii 112 .nilchk [.t 111],
 fa 113 1 112,
 ld 114 113,
 mv 115 4,
 b1 116 .sub 115 (.int .i64 3),
 b2 117 .add 114 116,
 ii 118 .nilchk [.t 111],
 fa 119 1 118,
 ⟨none, none, .store 1, [.t 119, .t 117]⟩])
 (.seq
 (.reg [b1 121 .eql 81 (.int .i64 3),
 mt 120 121])
 (.cond (.t 120)
 (.reg [mv 122 16,
 mv 123 4,
 ii 124 .nilchk [.t 122],
 fa 125 0 124,
 ⟨none, none, .store 1, [.t 125, .t 123]⟩])
 (.seq
 (.reg [b1 127 .eql 81 (.int .i64 4),
 mt 126 127])
 (.cond (.t 126)
 (.reg [mv 128 4,
 fa 129 0 14,
 ⟨none, none, .store 1, [.t 129, .t 128]⟩])
 (.seq
 (.reg [b1 131 .eql 81 (.int .i64 5),
 mt 130 131])
 (.cond (.t 130)
 (.regd [fa 132 1 14,
 ii 133 (.at 2 (.load 1 false false)) [.t 132],
 mv 134 4,
 mv 135 16,
 ii 136 .nilchk [.t 135],
 fa 137 1 136,
 ld 138 137,
 mv 139 16,
 ii 140 .nilchk [.t 139],
 fa 141 2 140,
 ld 142 141,
 b2 143 .add 138 142,
 ⟨some 144, none, .build [.int .i64 0, .int .i64 0, .int .i64 0, .int .i64 0] [(0, 1), (1, 1), (2, 1), (3, 1)], [.t 134, .t 143, .c (.p (.int .i64 1)), .c (.p (.int .i64 1))]⟩,
 ii 145 (.bsl 4 1) [.t 144],
 ii 146 (.ob (.appd 4 32 true)) [.t 133, .t 145],
 fa 147 1 14,
 ⟨none, none, .at 2 (.store 1), [.t 147, .t 146]⟩])
 (.reg [fa 82 1 14,
 ld 83 82,
 mv 84 4,
 ii 85 (.iad 4) [.t 83, .c (.p (.int .i64 0))],
 fa 86 1 85,
 ⟨none, none, .store 1, [.t 86, .t 84]⟩])))))))))))))))
 (.seq
 (.pre [] [3, 4] [] (.regd [ii 148 (.at 0 (.load 5 true false)) [.t 5],
 ii 149 (.at 1 (.load 4 true false)) [.t 7],
 ii 150 (.ob (.lda 2)) [.t 14],
 ii 151 (.call 22) [.t 148, .t 149, .t 150],
 ii 152 (.at 0 (.load 5 true false)) [.t 5],
 ii 153 (.at 1 (.load 4 true false)) [.t 7],
 ii 154 (.ob (.lda 2)) [.t 14],
 ii 155 (.call 23) [.t 152, .t 153, .t 154],
 ii 156 (.eqb false) [.t 151, .t 155],
 mt 10 156]))
 .ret))))))))))))))))⟩
theorem k3 : chkF Tryz.prog 3 F3 = true := by kernel_rfl
theorem seven (w : Int) : (w == 0) = true ∨ ((w == 0) = false ∧ (w == 1) = true) ∨ ((w == 0) = false ∧ (w == 1) = false ∧ (w == 2) = true) ∨ ((w == 0) = false ∧ (w == 1) = false ∧ (w == 2) = false ∧ (w == 3) = true) ∨
  ((w == 0) = false ∧ (w == 1) = false ∧ (w == 2) = false ∧ (w == 3) = false ∧ (w == 4) = true) ∨ ((w == 0) = false ∧ (w == 1) = false ∧ (w == 2) = false ∧ (w == 3) = false ∧ (w == 4) = false ∧ (w == 5) = true) ∨
  ((w == 0) = false ∧ (w == 1) = false ∧ (w == 2) = false ∧ (w == 3) = false ∧ (w == 4) = false ∧ (w == 5) = false) := by
 cases (w == 0) <;> cases (w == 1) <;> cases (w == 2) <;> cases (w == 3) <;> cases (w == 4) <;> cases (w == 5) <;> simp
structure PTH (c d : Cf) (nl : Bool) (ls L : LL) (t u : Tk) : Prop where
 hbeg : PureCall Tryz.prog 15 [] (.p (.bool true))
 h19 : PureCall Tryz.prog 16 [eCf c] (.p (eCf d))
 h20 : PureCall Tryz.prog 17 [eCf d, sLL nl ls] (.p (sLL false L))
 h21 : PureCall Tryz.prog 18 [eCf d, eT t] (.tup [.p (eT u), .p (.bool true)])
 hm : ∀ (k : Int) (W : List Pc), W.length ≤ 7 → ∃ v, PureCall Tryz.prog 22 [eCf d, eT u, ePl k false W] (.p (.bool v)) ∧ PureCall Tryz.prog 23 [eCf d, eT u, ePl k false W] (.p (.bool v))
theorem ptN {c d : Cf} {nl : Bool} {ls L : LL} {t u : Tk} {w b : Int} (hbeg : PureCall Tryz.prog 15 [] (.p (.bool true))) (h19 : PureCall Tryz.prog 16 [eCf c] (.p (eCf d))) (h20 : PureCall Tryz.prog 17 [eCf d, sLL nl ls] (.p (sLL false L)))
  (h21 : PureCall Tryz.prog 18 [eCf d, eT t] (.tup [.p (eT u), .p (.bool true)])) (hS : PureCall Tryz.prog 19 [eCf d, sLL false L, eT u] (.tup [.p (.agg [.int .i64 0, .sl 4 true []]), .p (.bool false)]))
  (hZ : PureCall Tryz.prog 20 [eCf d, sLL false L, eT u] (.tup [.p (.agg [.int .i64 0, .sl 4 true []]), .p (.bool false)])) (hP : PureCall Tryz.prog 21 [sLL false L, eT u, .int .i64 0] (.tup [.p (.agg [.int .i64 0, .sl 4 true []]), .p (.bool false)])) :
  PureCall Tryz.prog 3 [eCf c, sLL nl ls, eT t, .int .i64 w, .int .i64 b] (.p (.bool true)) := by
 have hmx := maxLen_eq
 simp only [eCf, eT] at h19 h20 h21 hS hZ hP
 refine Fn.run k3 rfl ?_
 generalize Tryz.prog = P at *
 (repeat' ((conv => whnf); first | exact trivial | with_reducible refine zX ?_ | refine ⟨rfl, ?_⟩ | refine ⟨_, rfl, ?_⟩ | with_reducible refine zP ?_ | with_reducible refine zL ?_ | refine ⟨fun _ => ?_, fun _ => ?_⟩ | refine zn ?_ | refine zb rfl ?_ | refine zX ?_ | refine zo rfl ?_ | refine zs ?_ | intro _)); all_goals (try (conv => whnf))
 all_goals rfl
end Go.Proofs.YtoepoghmeajocaaGreatDoor.Vc
namespace Go.Proofs.YtoepoghmeajocaaGreatDoor.Vc
open Go.RowKit Ma
theorem ptS2 {c d : Cf} {nl : Bool} {ls L : LL} {t u : Tk} {w b k0 : Int} {p1 p2 : Pc} (H : PTH c d nl ls L t u) (hS : PureCall Tryz.prog 19 [eCf d, sLL false L, eT u] (.tup [.p (.agg [.int .i64 k0, .sl 4 false [.agg [.int .i64 p1.core, .int .i64 p1.off, .int .i64 p1.len, .int .i64 p1.c], .agg [.int .i64 p2.core, .int .i64 p2.off, .int .i64 p2.len, .int .i64 p2.c]]]), .p (.bool true)]))
  : PureCall Tryz.prog 3 [eCf c, sLL nl ls, eT t, .int .i64 w, .int .i64 b] (.p (.bool true)) := by
 obtain ⟨hbeg, h19, h20, h21, hm⟩ := H
 have hmx := maxLen_eq
 have zl : ((([.agg [.int .i64 p1.core, .int .i64 p1.off, .int .i64 p1.len, .int .i64 p1.c], .agg [.int .i64 p2.core, .int .i64 p2.off, .int .i64 p2.len, .int .i64 p2.c]] : List PV).length : Int) == 0) = false := rfl
 simp only [eCf, eT, ePl, List.map_cons, List.map_nil, eP] at h19 h20 h21 hS
 rcases seven (bitsOf .and .i64 w 7) with e0 | ⟨e0, e1⟩ | ⟨e0, e1, e2⟩ | ⟨e0, e1, e2, e3⟩ | ⟨e0, e1, e2, e3, e4⟩ | ⟨e0, e1, e2, e3, e4, e5⟩ | ⟨e0, e1, e2, e3, e4, e5⟩
 case' inl => obtain ⟨v, h27, h36⟩ := hm k0 [⟨p1.core, p1.off, p1.len, p1.c⟩, ⟨p2.core, p2.off, p2.len, (IntKind.wrap .i64 (p2.c + IntKind.wrap .i64 ((bitsOf .and .i64 b 7) - 3)))⟩] (by simp)
 case' inr.inl => obtain ⟨v, h27, h36⟩ := hm k0 [⟨p1.core, p1.off, p1.len, p1.c⟩, ⟨p2.core, p2.off, (IntKind.wrap .i64 (p2.len + IntKind.wrap .i64 ((bitsOf .and .i64 b 7) - 3))), p2.c⟩] (by simp)
 case' inr.inr.inl => obtain ⟨v, h27, h36⟩ := hm k0 [⟨p1.core, p1.off, p1.len, p1.c⟩, ⟨p2.core, (IntKind.wrap .i64 (p2.off + IntKind.wrap .i64 ((bitsOf .and .i64 b 7) - 3))), p2.len, p2.c⟩] (by simp)
 case' inr.inr.inr.inl => obtain ⟨v, h27, h36⟩ := hm k0 [⟨p1.core, p1.off, p1.len, p1.c⟩, ⟨(bitsOf .and .i64 b 7), p2.off, p2.len, p2.c⟩] (by simp)
 case' inr.inr.inr.inr.inl => obtain ⟨v, h27, h36⟩ := hm (bitsOf .and .i64 b 7) [⟨p1.core, p1.off, p1.len, p1.c⟩, ⟨p2.core, p2.off, p2.len, p2.c⟩] (by simp)
 case' inr.inr.inr.inr.inr.inl => obtain ⟨v, h27, h36⟩ := hm k0 [⟨p1.core, p1.off, p1.len, p1.c⟩, ⟨p2.core, p2.off, p2.len, p2.c⟩, ⟨(bitsOf .and .i64 b 7), (IntKind.wrap .i64 (p2.off + p2.len)), 1, 1⟩] (by simp)
 case' inr.inr.inr.inr.inr.inr => obtain ⟨v, h27, h36⟩ := hm k0 [⟨p1.core, (bitsOf .and .i64 b 7), p1.len, p1.c⟩, ⟨p2.core, p2.off, p2.len, p2.c⟩] (by simp)
 all_goals (
  have hv : (v == v) = true := by simp
  simp only [eCf, eT, ePl, List.map_cons, List.map_nil, eP] at h27 h36
  clear hm
  refine Fn.run k3 rfl ?_
  generalize Tryz.prog = P at *
  (repeat' ((conv => whnf); first | exact trivial | with_reducible refine zX ?_ | refine ⟨rfl, ?_⟩ | refine ⟨_, rfl, ?_⟩ | with_reducible refine zP ?_ | with_reducible refine zL ?_ | refine ⟨fun _ => ?_, fun _ => ?_⟩ | refine zn ?_ | refine zb rfl ?_ | refine zX ?_ | refine zo rfl ?_ | refine zs ?_ | intro _)); all_goals (try (conv => whnf))
  all_goals first | exact bool_end hv | contradiction)
end Go.Proofs.YtoepoghmeajocaaGreatDoor.Vc
namespace Go.Proofs.YtoepoghmeajocaaGreatDoor.Vc
open Go.RowKit Ma
theorem ptS3 {c d : Cf} {nl : Bool} {ls L : LL} {t u : Tk} {w b k0 : Int} {p1 p2 p3 : Pc} (H : PTH c d nl ls L t u) (hS : PureCall Tryz.prog 19 [eCf d, sLL false L, eT u] (.tup [.p (.agg [.int .i64 k0, .sl 4 false [.agg [.int .i64 p1.core, .int .i64 p1.off, .int .i64 p1.len, .int .i64 p1.c], .agg [.int .i64 p2.core, .int .i64 p2.off, .int .i64 p2.len, .int .i64 p2.c], .agg [.int .i64 p3.core, .int .i64 p3.off, .int .i64 p3.len, .int .i64 p3.c]]]), .p (.bool true)]))
  : PureCall Tryz.prog 3 [eCf c, sLL nl ls, eT t, .int .i64 w, .int .i64 b] (.p (.bool true)) := by
 obtain ⟨hbeg, h19, h20, h21, hm⟩ := H
 have hmx := maxLen_eq
 have zl : ((([.agg [.int .i64 p1.core, .int .i64 p1.off, .int .i64 p1.len, .int .i64 p1.c], .agg [.int .i64 p2.core, .int .i64 p2.off, .int .i64 p2.len, .int .i64 p2.c], .agg [.int .i64 p3.core, .int .i64 p3.off, .int .i64 p3.len, .int .i64 p3.c]] : List PV).length : Int) == 0) = false := rfl
 simp only [eCf, eT, ePl, List.map_cons, List.map_nil, eP] at h19 h20 h21 hS
 rcases seven (bitsOf .and .i64 w 7) with e0 | ⟨e0, e1⟩ | ⟨e0, e1, e2⟩ | ⟨e0, e1, e2, e3⟩ | ⟨e0, e1, e2, e3, e4⟩ | ⟨e0, e1, e2, e3, e4, e5⟩ | ⟨e0, e1, e2, e3, e4, e5⟩
 case' inl => obtain ⟨v, h27, h36⟩ := hm k0 [⟨p1.core, p1.off, p1.len, p1.c⟩, ⟨p2.core, p2.off, p2.len, p2.c⟩, ⟨p3.core, p3.off, p3.len, (IntKind.wrap .i64 (p3.c + IntKind.wrap .i64 ((bitsOf .and .i64 b 7) - 3)))⟩] (by simp)
 case' inr.inl => obtain ⟨v, h27, h36⟩ := hm k0 [⟨p1.core, p1.off, p1.len, p1.c⟩, ⟨p2.core, p2.off, p2.len, p2.c⟩, ⟨p3.core, p3.off, (IntKind.wrap .i64 (p3.len + IntKind.wrap .i64 ((bitsOf .and .i64 b 7) - 3))), p3.c⟩] (by simp)
 case' inr.inr.inl => obtain ⟨v, h27, h36⟩ := hm k0 [⟨p1.core, p1.off, p1.len, p1.c⟩, ⟨p2.core, p2.off, p2.len, p2.c⟩, ⟨p3.core, (IntKind.wrap .i64 (p3.off + IntKind.wrap .i64 ((bitsOf .and .i64 b 7) - 3))), p3.len, p3.c⟩] (by simp)
 case' inr.inr.inr.inl => obtain ⟨v, h27, h36⟩ := hm k0 [⟨p1.core, p1.off, p1.len, p1.c⟩, ⟨p2.core, p2.off, p2.len, p2.c⟩, ⟨(bitsOf .and .i64 b 7), p3.off, p3.len, p3.c⟩] (by simp)
 case' inr.inr.inr.inr.inl => obtain ⟨v, h27, h36⟩ := hm (bitsOf .and .i64 b 7) [⟨p1.core, p1.off, p1.len, p1.c⟩, ⟨p2.core, p2.off, p2.len, p2.c⟩, ⟨p3.core, p3.off, p3.len, p3.c⟩] (by simp)
 case' inr.inr.inr.inr.inr.inl => obtain ⟨v, h27, h36⟩ := hm k0 [⟨p1.core, p1.off, p1.len, p1.c⟩, ⟨p2.core, p2.off, p2.len, p2.c⟩, ⟨p3.core, p3.off, p3.len, p3.c⟩, ⟨(bitsOf .and .i64 b 7), (IntKind.wrap .i64 (p3.off + p3.len)), 1, 1⟩] (by simp)
 case' inr.inr.inr.inr.inr.inr => obtain ⟨v, h27, h36⟩ := hm k0 [⟨p1.core, (bitsOf .and .i64 b 7), p1.len, p1.c⟩, ⟨p2.core, p2.off, p2.len, p2.c⟩, ⟨p3.core, p3.off, p3.len, p3.c⟩] (by simp)
 all_goals (
  have hv : (v == v) = true := by simp
  simp only [eCf, eT, ePl, List.map_cons, List.map_nil, eP] at h27 h36
  clear hm
  refine Fn.run k3 rfl ?_
  generalize Tryz.prog = P at *
  (repeat' ((conv => whnf); first | exact trivial | with_reducible refine zX ?_ | refine ⟨rfl, ?_⟩ | refine ⟨_, rfl, ?_⟩ | with_reducible refine zP ?_ | with_reducible refine zL ?_ | refine ⟨fun _ => ?_, fun _ => ?_⟩ | refine zn ?_ | refine zb rfl ?_ | refine zX ?_ | refine zo rfl ?_ | refine zs ?_ | intro _)); all_goals (try (conv => whnf))
  all_goals first | exact bool_end hv | contradiction)
end Go.Proofs.YtoepoghmeajocaaGreatDoor.Vc
namespace Go.Proofs.YtoepoghmeajocaaGreatDoor.Vc
open Go.RowKit Ma
theorem ptS4 {c d : Cf} {nl : Bool} {ls L : LL} {t u : Tk} {w b k0 : Int} {p1 p2 p3 p4 : Pc} (H : PTH c d nl ls L t u) (hS : PureCall Tryz.prog 19 [eCf d, sLL false L, eT u] (.tup [.p (.agg [.int .i64 k0, .sl 4 false [.agg [.int .i64 p1.core, .int .i64 p1.off, .int .i64 p1.len, .int .i64 p1.c], .agg [.int .i64 p2.core, .int .i64 p2.off, .int .i64 p2.len, .int .i64 p2.c], .agg [.int .i64 p3.core, .int .i64 p3.off, .int .i64 p3.len, .int .i64 p3.c], .agg [.int .i64 p4.core, .int .i64 p4.off, .int .i64 p4.len, .int .i64 p4.c]]]), .p (.bool true)]))
  : PureCall Tryz.prog 3 [eCf c, sLL nl ls, eT t, .int .i64 w, .int .i64 b] (.p (.bool true)) := by
 obtain ⟨hbeg, h19, h20, h21, hm⟩ := H
 have hmx := maxLen_eq
 have zl : ((([.agg [.int .i64 p1.core, .int .i64 p1.off, .int .i64 p1.len, .int .i64 p1.c], .agg [.int .i64 p2.core, .int .i64 p2.off, .int .i64 p2.len, .int .i64 p2.c], .agg [.int .i64 p3.core, .int .i64 p3.off, .int .i64 p3.len, .int .i64 p3.c], .agg [.int .i64 p4.core, .int .i64 p4.off, .int .i64 p4.len, .int .i64 p4.c]] : List PV).length : Int) == 0) = false := rfl
 simp only [eCf, eT, ePl, List.map_cons, List.map_nil, eP] at h19 h20 h21 hS
 rcases seven (bitsOf .and .i64 w 7) with e0 | ⟨e0, e1⟩ | ⟨e0, e1, e2⟩ | ⟨e0, e1, e2, e3⟩ | ⟨e0, e1, e2, e3, e4⟩ | ⟨e0, e1, e2, e3, e4, e5⟩ | ⟨e0, e1, e2, e3, e4, e5⟩
 case' inl => obtain ⟨v, h27, h36⟩ := hm k0 [⟨p1.core, p1.off, p1.len, p1.c⟩, ⟨p2.core, p2.off, p2.len, p2.c⟩, ⟨p3.core, p3.off, p3.len, p3.c⟩, ⟨p4.core, p4.off, p4.len, (IntKind.wrap .i64 (p4.c + IntKind.wrap .i64 ((bitsOf .and .i64 b 7) - 3)))⟩] (by simp)
 case' inr.inl => obtain ⟨v, h27, h36⟩ := hm k0 [⟨p1.core, p1.off, p1.len, p1.c⟩, ⟨p2.core, p2.off, p2.len, p2.c⟩, ⟨p3.core, p3.off, p3.len, p3.c⟩, ⟨p4.core, p4.off, (IntKind.wrap .i64 (p4.len + IntKind.wrap .i64 ((bitsOf .and .i64 b 7) - 3))), p4.c⟩] (by simp)
 case' inr.inr.inl => obtain ⟨v, h27, h36⟩ := hm k0 [⟨p1.core, p1.off, p1.len, p1.c⟩, ⟨p2.core, p2.off, p2.len, p2.c⟩, ⟨p3.core, p3.off, p3.len, p3.c⟩, ⟨p4.core, (IntKind.wrap .i64 (p4.off + IntKind.wrap .i64 ((bitsOf .and .i64 b 7) - 3))), p4.len, p4.c⟩] (by simp)
 case' inr.inr.inr.inl => obtain ⟨v, h27, h36⟩ := hm k0 [⟨p1.core, p1.off, p1.len, p1.c⟩, ⟨p2.core, p2.off, p2.len, p2.c⟩, ⟨p3.core, p3.off, p3.len, p3.c⟩, ⟨(bitsOf .and .i64 b 7), p4.off, p4.len, p4.c⟩] (by simp)
 case' inr.inr.inr.inr.inl => obtain ⟨v, h27, h36⟩ := hm (bitsOf .and .i64 b 7) [⟨p1.core, p1.off, p1.len, p1.c⟩, ⟨p2.core, p2.off, p2.len, p2.c⟩, ⟨p3.core, p3.off, p3.len, p3.c⟩, ⟨p4.core, p4.off, p4.len, p4.c⟩] (by simp)
 case' inr.inr.inr.inr.inr.inl => obtain ⟨v, h27, h36⟩ := hm k0 [⟨p1.core, p1.off, p1.len, p1.c⟩, ⟨p2.core, p2.off, p2.len, p2.c⟩, ⟨p3.core, p3.off, p3.len, p3.c⟩, ⟨p4.core, p4.off, p4.len, p4.c⟩, ⟨(bitsOf .and .i64 b 7), (IntKind.wrap .i64 (p4.off + p4.len)), 1, 1⟩] (by simp)
 case' inr.inr.inr.inr.inr.inr => obtain ⟨v, h27, h36⟩ := hm k0 [⟨p1.core, (bitsOf .and .i64 b 7), p1.len, p1.c⟩, ⟨p2.core, p2.off, p2.len, p2.c⟩, ⟨p3.core, p3.off, p3.len, p3.c⟩, ⟨p4.core, p4.off, p4.len, p4.c⟩] (by simp)
 all_goals (
  have hv : (v == v) = true := by simp
  simp only [eCf, eT, ePl, List.map_cons, List.map_nil, eP] at h27 h36
  clear hm
  refine Fn.run k3 rfl ?_
  generalize Tryz.prog = P at *
  (repeat' ((conv => whnf); first | exact trivial | with_reducible refine zX ?_ | refine ⟨rfl, ?_⟩ | refine ⟨_, rfl, ?_⟩ | with_reducible refine zP ?_ | with_reducible refine zL ?_ | refine ⟨fun _ => ?_, fun _ => ?_⟩ | refine zn ?_ | refine zb rfl ?_ | refine zX ?_ | refine zo rfl ?_ | refine zs ?_ | intro _)); all_goals (try (conv => whnf))
  all_goals first | exact bool_end hv | contradiction)
end Go.Proofs.YtoepoghmeajocaaGreatDoor.Vc
