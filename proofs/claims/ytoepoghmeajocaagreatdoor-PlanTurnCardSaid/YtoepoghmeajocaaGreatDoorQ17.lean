/- Part of a proof over a Go program: LptS5, LptS6, LptZ2, LptP1. No condition. -/
import Derived.Test.YtoepoghmeajocaaGreatDoorQ16
set_option linter.unnecessarySimpa false
set_option linter.unusedSectionVars false
set_option linter.unusedSimpArgs false
set_option linter.unusedVariables false
set_option maxHeartbeats 40000000
set_option maxRecDepth 100000
namespace Go.Proofs.YtoepoghmeajocaaGreatDoor.Vc
open Go.RowKit Ma
theorem ptS5 {c d : Cf} {nl : Bool} {ls L : LL} {t u : Tk} {w b k0 : Int} {p1 p2 p3 p4 p5 : Pc} (H : PTH c d nl ls L t u) (hS : PureCall Tryz.prog 19 [eCf d, sLL false L, eT u] (.tup [.p (.agg [.int .i64 k0, .sl 4 false [.agg [.int .i64 p1.core, .int .i64 p1.off, .int .i64 p1.len, .int .i64 p1.c], .agg [.int .i64 p2.core, .int .i64 p2.off, .int .i64 p2.len, .int .i64 p2.c], .agg [.int .i64 p3.core, .int .i64 p3.off, .int .i64 p3.len, .int .i64 p3.c], .agg [.int .i64 p4.core, .int .i64 p4.off, .int .i64 p4.len, .int .i64 p4.c], .agg [.int .i64 p5.core, .int .i64 p5.off, .int .i64 p5.len, .int .i64 p5.c]]]), .p (.bool true)]))
  : PureCall Tryz.prog 3 [eCf c, sLL nl ls, eT t, .int .i64 w, .int .i64 b] (.p (.bool true)) := by
 obtain ⟨hbeg, h19, h20, h21, hm⟩ := H
 have hmx := maxLen_eq
 have zl : ((([.agg [.int .i64 p1.core, .int .i64 p1.off, .int .i64 p1.len, .int .i64 p1.c], .agg [.int .i64 p2.core, .int .i64 p2.off, .int .i64 p2.len, .int .i64 p2.c], .agg [.int .i64 p3.core, .int .i64 p3.off, .int .i64 p3.len, .int .i64 p3.c], .agg [.int .i64 p4.core, .int .i64 p4.off, .int .i64 p4.len, .int .i64 p4.c], .agg [.int .i64 p5.core, .int .i64 p5.off, .int .i64 p5.len, .int .i64 p5.c]] : List PV).length : Int) == 0) = false := rfl
 simp only [eCf, eT, ePl, List.map_cons, List.map_nil, eP] at h19 h20 h21 hS
 rcases seven (bitsOf .and .i64 w 7) with e0 | ⟨e0, e1⟩ | ⟨e0, e1, e2⟩ | ⟨e0, e1, e2, e3⟩ | ⟨e0, e1, e2, e3, e4⟩ | ⟨e0, e1, e2, e3, e4, e5⟩ | ⟨e0, e1, e2, e3, e4, e5⟩
 case' inl => obtain ⟨v, h27, h36⟩ := hm k0 [⟨p1.core, p1.off, p1.len, p1.c⟩, ⟨p2.core, p2.off, p2.len, p2.c⟩, ⟨p3.core, p3.off, p3.len, p3.c⟩, ⟨p4.core, p4.off, p4.len, p4.c⟩, ⟨p5.core, p5.off, p5.len, (IntKind.wrap .i64 (p5.c + IntKind.wrap .i64 ((bitsOf .and .i64 b 7) - 3)))⟩] (by simp)
 case' inr.inl => obtain ⟨v, h27, h36⟩ := hm k0 [⟨p1.core, p1.off, p1.len, p1.c⟩, ⟨p2.core, p2.off, p2.len, p2.c⟩, ⟨p3.core, p3.off, p3.len, p3.c⟩, ⟨p4.core, p4.off, p4.len, p4.c⟩, ⟨p5.core, p5.off, (IntKind.wrap .i64 (p5.len + IntKind.wrap .i64 ((bitsOf .and .i64 b 7) - 3))), p5.c⟩] (by simp)
 case' inr.inr.inl => obtain ⟨v, h27, h36⟩ := hm k0 [⟨p1.core, p1.off, p1.len, p1.c⟩, ⟨p2.core, p2.off, p2.len, p2.c⟩, ⟨p3.core, p3.off, p3.len, p3.c⟩, ⟨p4.core, p4.off, p4.len, p4.c⟩, ⟨p5.core, (IntKind.wrap .i64 (p5.off + IntKind.wrap .i64 ((bitsOf .and .i64 b 7) - 3))), p5.len, p5.c⟩] (by simp)
 case' inr.inr.inr.inl => obtain ⟨v, h27, h36⟩ := hm k0 [⟨p1.core, p1.off, p1.len, p1.c⟩, ⟨p2.core, p2.off, p2.len, p2.c⟩, ⟨p3.core, p3.off, p3.len, p3.c⟩, ⟨p4.core, p4.off, p4.len, p4.c⟩, ⟨(bitsOf .and .i64 b 7), p5.off, p5.len, p5.c⟩] (by simp)
 case' inr.inr.inr.inr.inl => obtain ⟨v, h27, h36⟩ := hm (bitsOf .and .i64 b 7) [⟨p1.core, p1.off, p1.len, p1.c⟩, ⟨p2.core, p2.off, p2.len, p2.c⟩, ⟨p3.core, p3.off, p3.len, p3.c⟩, ⟨p4.core, p4.off, p4.len, p4.c⟩, ⟨p5.core, p5.off, p5.len, p5.c⟩] (by simp)
 case' inr.inr.inr.inr.inr.inl => obtain ⟨v, h27, h36⟩ := hm k0 [⟨p1.core, p1.off, p1.len, p1.c⟩, ⟨p2.core, p2.off, p2.len, p2.c⟩, ⟨p3.core, p3.off, p3.len, p3.c⟩, ⟨p4.core, p4.off, p4.len, p4.c⟩, ⟨p5.core, p5.off, p5.len, p5.c⟩, ⟨(bitsOf .and .i64 b 7), (IntKind.wrap .i64 (p5.off + p5.len)), 1, 1⟩] (by simp)
 case' inr.inr.inr.inr.inr.inr => obtain ⟨v, h27, h36⟩ := hm k0 [⟨p1.core, (bitsOf .and .i64 b 7), p1.len, p1.c⟩, ⟨p2.core, p2.off, p2.len, p2.c⟩, ⟨p3.core, p3.off, p3.len, p3.c⟩, ⟨p4.core, p4.off, p4.len, p4.c⟩, ⟨p5.core, p5.off, p5.len, p5.c⟩] (by simp)
 all_goals (
  have hv : (v == v) = true := by simp
  simp only [eCf, eT, ePl, List.map_cons, List.map_nil, eP] at h27 h36
  clear hm
  refine Fn.run k3 rfl ?_
  generalize Tryz.prog = P at *
  (repeat' ((conv => whnf); first | exact trivial | with_reducible refine zX ?_ | refine ⟨rfl, ?_⟩ | refine ⟨_, rfl, ?_⟩ | with_reducible refine zP ?_ | with_reducible refine zL ?_ | refine ⟨fun _ => ?_, fun _ => ?_⟩ | refine zn ?_ | refine zb rfl ?_ | refine zX ?_ | refine zo rfl ?_ | refine zs ?_ | intro _)); all_goals (try (conv => whnf))
  all_goals first | exact bool_end hv | contradiction)
end Go.Proofs.YtoepoghmeajocaaGreatDoor.Vc
namespace Go.Proofs.YtoepoghmeajocaaGreatDoor.Vc
open Go.RowKit Ma
theorem ptS6 {c d : Cf} {nl : Bool} {ls L : LL} {t u : Tk} {w b k0 : Int} {p1 p2 p3 p4 p5 p6 : Pc} (H : PTH c d nl ls L t u) (hS : PureCall Tryz.prog 19 [eCf d, sLL false L, eT u] (.tup [.p (.agg [.int .i64 k0, .sl 4 false [.agg [.int .i64 p1.core, .int .i64 p1.off, .int .i64 p1.len, .int .i64 p1.c], .agg [.int .i64 p2.core, .int .i64 p2.off, .int .i64 p2.len, .int .i64 p2.c], .agg [.int .i64 p3.core, .int .i64 p3.off, .int .i64 p3.len, .int .i64 p3.c], .agg [.int .i64 p4.core, .int .i64 p4.off, .int .i64 p4.len, .int .i64 p4.c], .agg [.int .i64 p5.core, .int .i64 p5.off, .int .i64 p5.len, .int .i64 p5.c], .agg [.int .i64 p6.core, .int .i64 p6.off, .int .i64 p6.len, .int .i64 p6.c]]]), .p (.bool true)]))
  : PureCall Tryz.prog 3 [eCf c, sLL nl ls, eT t, .int .i64 w, .int .i64 b] (.p (.bool true)) := by
 obtain ⟨hbeg, h19, h20, h21, hm⟩ := H
 have hmx := maxLen_eq
 have zl : ((([.agg [.int .i64 p1.core, .int .i64 p1.off, .int .i64 p1.len, .int .i64 p1.c], .agg [.int .i64 p2.core, .int .i64 p2.off, .int .i64 p2.len, .int .i64 p2.c], .agg [.int .i64 p3.core, .int .i64 p3.off, .int .i64 p3.len, .int .i64 p3.c], .agg [.int .i64 p4.core, .int .i64 p4.off, .int .i64 p4.len, .int .i64 p4.c], .agg [.int .i64 p5.core, .int .i64 p5.off, .int .i64 p5.len, .int .i64 p5.c], .agg [.int .i64 p6.core, .int .i64 p6.off, .int .i64 p6.len, .int .i64 p6.c]] : List PV).length : Int) == 0) = false := rfl
 simp only [eCf, eT, ePl, List.map_cons, List.map_nil, eP] at h19 h20 h21 hS
 rcases seven (bitsOf .and .i64 w 7) with e0 | ⟨e0, e1⟩ | ⟨e0, e1, e2⟩ | ⟨e0, e1, e2, e3⟩ | ⟨e0, e1, e2, e3, e4⟩ | ⟨e0, e1, e2, e3, e4, e5⟩ | ⟨e0, e1, e2, e3, e4, e5⟩
 case' inl => obtain ⟨v, h27, h36⟩ := hm k0 [⟨p1.core, p1.off, p1.len, p1.c⟩, ⟨p2.core, p2.off, p2.len, p2.c⟩, ⟨p3.core, p3.off, p3.len, p3.c⟩, ⟨p4.core, p4.off, p4.len, p4.c⟩, ⟨p5.core, p5.off, p5.len, p5.c⟩, ⟨p6.core, p6.off, p6.len, (IntKind.wrap .i64 (p6.c + IntKind.wrap .i64 ((bitsOf .and .i64 b 7) - 3)))⟩] (by simp)
 case' inr.inl => obtain ⟨v, h27, h36⟩ := hm k0 [⟨p1.core, p1.off, p1.len, p1.c⟩, ⟨p2.core, p2.off, p2.len, p2.c⟩, ⟨p3.core, p3.off, p3.len, p3.c⟩, ⟨p4.core, p4.off, p4.len, p4.c⟩, ⟨p5.core, p5.off, p5.len, p5.c⟩, ⟨p6.core, p6.off, (IntKind.wrap .i64 (p6.len + IntKind.wrap .i64 ((bitsOf .and .i64 b 7) - 3))), p6.c⟩] (by simp)
 case' inr.inr.inl => obtain ⟨v, h27, h36⟩ := hm k0 [⟨p1.core, p1.off, p1.len, p1.c⟩, ⟨p2.core, p2.off, p2.len, p2.c⟩, ⟨p3.core, p3.off, p3.len, p3.c⟩, ⟨p4.core, p4.off, p4.len, p4.c⟩, ⟨p5.core, p5.off, p5.len, p5.c⟩, ⟨p6.core, (IntKind.wrap .i64 (p6.off + IntKind.wrap .i64 ((bitsOf .and .i64 b 7) - 3))), p6.len, p6.c⟩] (by simp)
 case' inr.inr.inr.inl => obtain ⟨v, h27, h36⟩ := hm k0 [⟨p1.core, p1.off, p1.len, p1.c⟩, ⟨p2.core, p2.off, p2.len, p2.c⟩, ⟨p3.core, p3.off, p3.len, p3.c⟩, ⟨p4.core, p4.off, p4.len, p4.c⟩, ⟨p5.core, p5.off, p5.len, p5.c⟩, ⟨(bitsOf .and .i64 b 7), p6.off, p6.len, p6.c⟩] (by simp)
 case' inr.inr.inr.inr.inl => obtain ⟨v, h27, h36⟩ := hm (bitsOf .and .i64 b 7) [⟨p1.core, p1.off, p1.len, p1.c⟩, ⟨p2.core, p2.off, p2.len, p2.c⟩, ⟨p3.core, p3.off, p3.len, p3.c⟩, ⟨p4.core, p4.off, p4.len, p4.c⟩, ⟨p5.core, p5.off, p5.len, p5.c⟩, ⟨p6.core, p6.off, p6.len, p6.c⟩] (by simp)
 case' inr.inr.inr.inr.inr.inl => obtain ⟨v, h27, h36⟩ := hm k0 [⟨p1.core, p1.off, p1.len, p1.c⟩, ⟨p2.core, p2.off, p2.len, p2.c⟩, ⟨p3.core, p3.off, p3.len, p3.c⟩, ⟨p4.core, p4.off, p4.len, p4.c⟩, ⟨p5.core, p5.off, p5.len, p5.c⟩, ⟨p6.core, p6.off, p6.len, p6.c⟩, ⟨(bitsOf .and .i64 b 7), (IntKind.wrap .i64 (p6.off + p6.len)), 1, 1⟩] (by simp)
 case' inr.inr.inr.inr.inr.inr => obtain ⟨v, h27, h36⟩ := hm k0 [⟨p1.core, (bitsOf .and .i64 b 7), p1.len, p1.c⟩, ⟨p2.core, p2.off, p2.len, p2.c⟩, ⟨p3.core, p3.off, p3.len, p3.c⟩, ⟨p4.core, p4.off, p4.len, p4.c⟩, ⟨p5.core, p5.off, p5.len, p5.c⟩, ⟨p6.core, p6.off, p6.len, p6.c⟩] (by simp)
 all_goals (
  have hv : (v == v) = true := by simp
  simp only [eCf, eT, ePl, List.map_cons, List.map_nil, eP] at h27 h36
  clear hm
  refine Fn.run k3 rfl ?_
  generalize Tryz.prog = P at *
  (repeat' ((conv => whnf); first | exact trivial | with_reducible refine zX ?_ | refine ⟨rfl, ?_⟩ | refine ⟨_, rfl, ?_⟩ | with_reducible refine zP ?_ | with_reducible refine zL ?_ | refine ⟨fun _ => ?_, fun _ => ?_⟩ | refine zn ?_ | refine zb rfl ?_ | refine zX ?_ | refine zo rfl ?_ | refine zs ?_ | intro _)); all_goals (try (conv => whnf))
  all_goals first | exact bool_end hv | contradiction)
end Go.Proofs.YtoepoghmeajocaaGreatDoor.Vc
namespace Go.Proofs.YtoepoghmeajocaaGreatDoor.Vc
open Go.RowKit Ma
theorem ptZ2 {c d : Cf} {nl : Bool} {ls L : LL} {t u : Tk} {w b k0 : Int} {p1 p2 : Pc} (H : PTH c d nl ls L t u) (hS : PureCall Tryz.prog 19 [eCf d, sLL false L, eT u] (.tup [.p (.agg [.int .i64 0, .sl 4 true []]), .p (.bool false)])) (hZ : PureCall Tryz.prog 20 [eCf d, sLL false L, eT u] (.tup [.p (.agg [.int .i64 k0, .sl 4 false [.agg [.int .i64 p1.core, .int .i64 p1.off, .int .i64 p1.len, .int .i64 p1.c], .agg [.int .i64 p2.core, .int .i64 p2.off, .int .i64 p2.len, .int .i64 p2.c]]]), .p (.bool true)]))
  : PureCall Tryz.prog 3 [eCf c, sLL nl ls, eT t, .int .i64 w, .int .i64 b] (.p (.bool true)) := by
 obtain ⟨hbeg, h19, h20, h21, hm⟩ := H
 have hmx := maxLen_eq
 have zl : ((([.agg [.int .i64 p1.core, .int .i64 p1.off, .int .i64 p1.len, .int .i64 p1.c], .agg [.int .i64 p2.core, .int .i64 p2.off, .int .i64 p2.len, .int .i64 p2.c]] : List PV).length : Int) == 0) = false := rfl
 simp only [eCf, eT, ePl, List.map_cons, List.map_nil, eP] at h19 h20 h21 hS hZ
 rcases seven (bitsOf .and .i64 w 7) with e0 | ⟨e0, e1⟩ | ⟨e0, e1, e2⟩ | ⟨e0, e1, e2, e3⟩ | ⟨e0, e1, e2, e3, e4⟩ | ⟨e0, e1, e2, e3, e4, e5⟩ | ⟨e0, e1, e2, e3, e4, e5⟩
 case' inl => obtain ⟨v, h27, h36⟩ := hm k0 [⟨p1.core, p1.off, p1.len, p1.c⟩, ⟨p2.core, p2.off, p2.len, (IntKind.wrap .i64 (p2.c + IntKind.wrap .i64 ((bitsOf .and .i64 b 7) - 3)))⟩] (by simp)
 case' inr.inl => obtain ⟨v, h27, h36⟩ := hm k0 [⟨p1.core, p1.off, p1.len, p1.c⟩, ⟨p2.core, p2.off, (IntKind.wrap .i64 (p2.len + IntKind.wrap .i64 ((bitsOf .and .i64 b 7) - 3))), p2.c⟩] (by simp)
 case' inr.inr.inl => obtain ⟨v, h27, h36⟩ := hm k0 [⟨p1.core, p1.off, p1.len, p1.c⟩, ⟨p2.core, (IntKind.wrap .i64 (p2.off + IntKind.wrap .i64 ((bitsOf .and .i64 b 7) - 3))), p2.len, p2.c⟩] (by simp)
 case' inr.inr.inr.inl => obtain ⟨v, h27, h36⟩ := hm k0 [⟨p1.core, p1.off, p1.len, p1.c⟩, ⟨(bitsOf .and .i64 b 7), p2.off, p2.len, p2.c⟩] (by simp)
 case' inr.inr.inr.inr.inl => obtain ⟨v, h27, h36⟩ := hm (bitsOf .and .i64 b 7) [⟨p1.core, p1.off, p1.len, p1.c⟩, ⟨p2.core, p2.off, p2.len, p2.c⟩] (by simp)
 case' inr.inr.inr.inr.inr.inl => obtain ⟨v, h27, h36⟩ := hm k0 [⟨p1.core, p1.off, p1.len, p1.c⟩, ⟨p2.core, p2.off, p2.len, p2.c⟩, ⟨(bitsOf .and .i64 b 7), (IntKind.wrap .i64 (p2.off + p2.len)), 1, 1⟩] (by simp)
 case' inr.inr.inr.inr.inr.inr => obtain ⟨v, h27, h36⟩ := hm k0 [⟨p1.core, (bitsOf .and .i64 b 7), p1.len, p1.c⟩, ⟨p2.core, p2.off, p2.len, p2.c⟩] (by simp)
 all_goals (
  have hv : (v == v) = true := by simp
  simp only [eCf, eT, ePl, List.map_cons, List.map_nil, eP] at h27 h36
  clear hm
  refine Fn.run k3 rfl ?_
  generalize Tryz.prog = P at *
  (repeat' ((conv => whnf); first | exact trivial | with_reducible refine zX ?_ | refine ⟨rfl, ?_⟩ | refine ⟨_, rfl, ?_⟩ | with_reducible refine zP ?_ | with_reducible refine zL ?_ | refine ⟨fun _ => ?_, fun _ => ?_⟩ | refine zn ?_ | refine zb rfl ?_ | refine zX ?_ | refine zo rfl ?_ | refine zs ?_ | intro _)); all_goals (try (conv => whnf))
  all_goals first | exact bool_end hv | contradiction)
end Go.Proofs.YtoepoghmeajocaaGreatDoor.Vc
namespace Go.Proofs.YtoepoghmeajocaaGreatDoor.Vc
open Go.RowKit Ma
theorem ptP1 {c d : Cf} {nl : Bool} {ls L : LL} {t u : Tk} {w b k0 : Int} {p1 : Pc} (H : PTH c d nl ls L t u) (hS : PureCall Tryz.prog 19 [eCf d, sLL false L, eT u] (.tup [.p (.agg [.int .i64 0, .sl 4 true []]), .p (.bool false)])) (hZ : PureCall Tryz.prog 20 [eCf d, sLL false L, eT u] (.tup [.p (.agg [.int .i64 0, .sl 4 true []]), .p (.bool false)])) (hP : PureCall Tryz.prog 21 [sLL false L, eT u, .int .i64 0] (.tup [.p (.agg [.int .i64 k0, .sl 4 false [.agg [.int .i64 p1.core, .int .i64 p1.off, .int .i64 p1.len, .int .i64 p1.c]]]), .p (.bool true)]))
  : PureCall Tryz.prog 3 [eCf c, sLL nl ls, eT t, .int .i64 w, .int .i64 b] (.p (.bool true)) := by
 obtain ⟨hbeg, h19, h20, h21, hm⟩ := H
 have hmx := maxLen_eq
 have zl : ((([.agg [.int .i64 p1.core, .int .i64 p1.off, .int .i64 p1.len, .int .i64 p1.c]] : List PV).length : Int) == 0) = false := rfl
 simp only [eCf, eT, ePl, List.map_cons, List.map_nil, eP] at h19 h20 h21 hS hZ hP
 rcases seven (bitsOf .and .i64 w 7) with e0 | ⟨e0, e1⟩ | ⟨e0, e1, e2⟩ | ⟨e0, e1, e2, e3⟩ | ⟨e0, e1, e2, e3, e4⟩ | ⟨e0, e1, e2, e3, e4, e5⟩ | ⟨e0, e1, e2, e3, e4, e5⟩
 case' inl => obtain ⟨v, h27, h36⟩ := hm k0 [⟨p1.core, p1.off, p1.len, (IntKind.wrap .i64 (p1.c + IntKind.wrap .i64 ((bitsOf .and .i64 b 7) - 3)))⟩] (by simp)
 case' inr.inl => obtain ⟨v, h27, h36⟩ := hm k0 [⟨p1.core, p1.off, (IntKind.wrap .i64 (p1.len + IntKind.wrap .i64 ((bitsOf .and .i64 b 7) - 3))), p1.c⟩] (by simp)
 case' inr.inr.inl => obtain ⟨v, h27, h36⟩ := hm k0 [⟨p1.core, (IntKind.wrap .i64 (p1.off + IntKind.wrap .i64 ((bitsOf .and .i64 b 7) - 3))), p1.len, p1.c⟩] (by simp)
 case' inr.inr.inr.inl => obtain ⟨v, h27, h36⟩ := hm k0 [⟨(bitsOf .and .i64 b 7), p1.off, p1.len, p1.c⟩] (by simp)
 case' inr.inr.inr.inr.inl => obtain ⟨v, h27, h36⟩ := hm (bitsOf .and .i64 b 7) [⟨p1.core, p1.off, p1.len, p1.c⟩] (by simp)
 case' inr.inr.inr.inr.inr.inl => obtain ⟨v, h27, h36⟩ := hm k0 [⟨p1.core, p1.off, p1.len, p1.c⟩, ⟨(bitsOf .and .i64 b 7), (IntKind.wrap .i64 (p1.off + p1.len)), 1, 1⟩] (by simp)
 case' inr.inr.inr.inr.inr.inr => obtain ⟨v, h27, h36⟩ := hm k0 [⟨p1.core, (bitsOf .and .i64 b 7), p1.len, p1.c⟩] (by simp)
 all_goals (
  have hv : (v == v) = true := by simp
  simp only [eCf, eT, ePl, List.map_cons, List.map_nil, eP] at h27 h36
  clear hm
  refine Fn.run k3 rfl ?_
  generalize Tryz.prog = P at *
  (repeat' ((conv => whnf); first | exact trivial | with_reducible refine zX ?_ | refine ⟨rfl, ?_⟩ | refine ⟨_, rfl, ?_⟩ | with_reducible refine zP ?_ | with_reducible refine zL ?_ | refine ⟨fun _ => ?_, fun _ => ?_⟩ | refine zn ?_ | refine zb rfl ?_ | refine zX ?_ | refine zo rfl ?_ | refine zs ?_ | intro _)); all_goals (try (conv => whnf))
  all_goals first | exact bool_end hv | contradiction)
end Go.Proofs.YtoepoghmeajocaaGreatDoor.Vc
