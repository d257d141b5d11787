/- Contract of the law of number 15: it answers true. No condition. -/
import Derived.Test.YtkjghcbnmipgfaaGreatDoorA36
set_option linter.unusedSectionVars false
set_option linter.unusedSimpArgs false
set_option linter.unusedVariables false
set_option maxHeartbeats 4000000
set_option maxRecDepth 100000
namespace Go.Proofs.YtkjghcbnmipgfaaGreatDoor.Vc
open Go.RowKit Ma
def F15 : Fn := ⟨90, 5, [.tmp 6],
 (.seq
 (.reg [ii 3 (.box 0 5) [.t 0],
 ii 5 (.box 1 4) [.t 2],
 mc 6 (.bool false)])
 (.seq
 (.reg [ii 17 (.call 18) [],
 mt 7 17])
 (.seq
 (.seq
 (.reg [mv 18 7,
 ii 19 (.un .not) [.t 18]])
 (.cond (.t 19)
 (.seq
 (.reg [mc 6 (.bool false)])
 .ret)
 .skip))
 (.seq
 (.reg [ii 20 (.load 5 true false) [.t 3],
 ii 21 (.call 19) [.t 20],
 ⟨none, none, .store 5, [.t 3, .t 21]⟩])
 (.seq
 (.reg [ii 22 (.load 5 true false) [.t 3],
 mv 23 1,
 ii 24 (.call 20) [.t 22, .t 23],
 mt 8 24])
 (.seq
 (.reg [ii 26 (.load 5 true false) [.t 3],
 ii 27 (.load 4 true false) [.t 5],
 ii 28 (.call 21) [.t 26, .t 27],
 mv 25 28,
 ii 29 (.ext 0) [.t 25],
 ii 30 (.ext 1) [.t 25],
 ⟨none, none, .store 4, [.t 5, .t 29]⟩,
 mt 9 30])
 (.seq
 (.seq
 (.reg [mv 31 9,
 ii 32 (.un .not) [.t 31]])
 (.cond (.t 32)
 (.seq
 (.reg [mc 6 (.bool true)])
 .ret)
 .skip))
 (.seq
 (.reg [ii 34 (.load 5 true false) [.t 3],
 mv 35 8,
 ii 36 (.load 4 true false) [.t 5],
 ii 37 (.call 28) [.t 34, .t 35, .t 36],
 mv 33 37,
 ii 38 (.ext 0) [.t 33],
 ii 39 (.ext 1) [.t 33],
 ⟨some 10, none, .alloc 2 2 [.p (.int .i64 0), .ow 4 true []], []⟩,
 ⟨none, none, .store 2, [.t 10, .t 38]⟩,
 mt 11 39])
 (.seq
 (.reg [mv 40 8,
 ii 41 .len [.t 40],
 ⟨some 42, none, .mksl 3 1 24 false [.ow 3 true []], [.t 41, .t 41]⟩,
 mt 12 42])
 (.seq
 (.seq
 (.reg [mv 43 8,
 ii 44 .len [.t 43],
 ii 45 (.mov false) [.c (.p (.int .i64 0))]])
 (.block 0
 (.loop [0, 1, 2, 6, 7, 9, 13, 14, 15, 16, 17, 18, 19, 20, 21, 22, 23, 24, 25, 26, 27, 28, 29, 30, 31, 32, 33, 34, 35, 36, 37, 38, 39, 40, 41, 42, 43, 46, 47, 48, 49, 50, 51, 52, 53, 54, 55, 56, 57, 58, 59, 60, 61, 62, 63, 64, 65, 66, 67, 68, 69, 70, 71, 72, 73, 74, 75, 76, 77, 78, 79, 80, 81, 82, 83, 84, 85, 86, 87, 88, 89] []
 (.seq
 (.reg [b2 46 .lss 45 44])
 (.seq
 (.cond (.t 46)
 .skip
 (.exit 0))
 (.seq
 (.block 1
 (.seq
 (.reg [mv 47 45,
 mt 13 47])
 (.seq
 (.reg [mv 48 8,
 mv 49 13,
 ii 50 (.iad 1) [.t 48, .t 49],
 ld 51 50,
 ii 52 .len [.t 51],
 b1 53 .sub 52 (.int .i64 1),
 mt 14 53])
 (.block 2
 (.loop [0, 1, 2, 6, 7, 9, 15, 16, 17, 18, 19, 20, 21, 22, 23, 24, 25, 26, 27, 28, 29, 30, 31, 32, 33, 34, 35, 36, 37, 38, 39, 40, 41, 42, 43, 46, 47, 48, 49, 50, 51, 52, 53, 54, 55, 56, 57, 58, 59, 60, 61, 62, 63, 64, 65, 66, 67, 68, 69, 70, 71, 72, 73, 74, 75, 76, 77, 78, 79, 80, 81, 82, 83, 84, 85, 86, 87, 88, 89] []
 (.seq
 (.seq
 (.reg [mv 54 14,
 b1 55 .geq 54 (.int .i64 0)])
 (.cond (.t 55)
 .skip
 (.exit 2)))
 (.seq
 (.block 3
 (.regd [mv 58 12,
 mv 59 13,
 mv 60 12,
 mv 61 13,
 ii 62 (.iad 1) [.t 60, .t 61],
 ii 63 (.at 3 (.load 1 false true)) [.t 62],
 mv 64 8,
 mv 65 13,
 ii 66 (.iad 1) [.t 64, .t 65],
 ii 67 (.loadp 1 false) [.t 66],
 mv 68 14,
 ii 69 (.iad 3) [.t 67, .t 68],
 ii 70 (.loadp 3 true) [.t 69],
 ii 71 (.bsl 3 1) [.t 70],
 ii 72 (.pl (.app 3 24)) [.t 63, .t 71],
 ii 73 (.iad 1) [.t 58, .t 59],
 ⟨none, none, .at 3 (.store 1), [.t 73, .t 72]⟩]))
 (.reg [mv 56 14,
 b1 57 .sub 56 (.int .i64 1),
 mt 14 57]))))))))
 (.reg [b1 74 .add 45 (.int .i64 1),
 mv 45 74])))))))
 (.seq
 (.pre [] [3] [] (.reg [ii 76 (.load 5 true false) [.t 3],
 mv 77 12,
 ii 78 (.load 4 true false) [.t 5],
 ii 79 (.call 28) [.t 76, .t 77, .t 78],
 mv 75 79,
 ii 80 (.ext 0) [.t 75],
 ii 81 (.ext 1) [.t 75],
 ⟨some 15, none, .alloc 4 2 [.p (.int .i64 0), .ow 4 true []], []⟩,
 ⟨none, none, .store 2, [.t 15, .t 80]⟩,
 mt 16 81]))
 (.seq
 (.reg [mv 82 11,
 mv 83 16,
 ii 84 (.eqb false) [.t 82, .t 83],
 mv 85 84,
 gt 86 85 (.load 2 true false) [.t 10],
 gt 87 85 (.load 2 true false) [.t 15],
 gt 88 85 (.call 37) [.t 86, .t 87],
 ii 89 .pick [.t 85, .t 88, .c (.p (.bool false))],
 mt 6 89])
 .ret))))))))))))⟩
theorem k15 : chkF Tryz.prog 15 F15 = true := by kernel_rfl
def rE : List DV := [.ow 3 true []]
def rV (p : Bool × List Ld) : List DV := [.ow 3 p.2.isEmpty (p.2.reverse.map eL)]
def pV (p : Bool × List Ld) : PV := .sl 3 p.2.isEmpty (p.2.reverse.map eL)
def turned (L : LL) : LL := L.map fun p => (p.2.isEmpty, p.2.reverse)
theorem setL_mid {α : Type} (a b : List α) (x y : α) : setL (a ++ x :: b) a.length y = a ++ y :: b := by
  induction a with
  | nil => rfl
  | cons z a ih => simp only [List.cons_append, List.length_cons, setL, ih]
theorem call_ok {P : Program} {f : FuncId} {b : List (Option Box)} {xs : List DV} {args : List PV} {r : DV} {K : DV → Prop} (h : frzs b xs = some args) (hc : PureCall P f args r) (hk : K r) :
    (match frzs b xs with | some args => ∃ r, PureCall P f args r ∧ K r | none => False) := by rw [h]; exact ⟨r, hc, hk⟩
theorem frz3 {b : List (Option Box)} {d : DV} {x A B : PV} (h : DV.frz b d = some x) : frzs b [.p A, d, .p B] = some [A, x, B] := by
  simp only [frzs, h]; rfl
theorem copiesR_V (L : LL) : copiesR (L.map rV) = L.map fun p => [DV.p (pV p)] := by
  rw [copiesR_eq, List.map_map]; rfl
theorem rowsP_V (L : LL) : rowsP false (L.map fun p => [DV.p (pV p)]) = some ((turned L).map eC) := by
  rw [rowsP_one pV L]
  unfold turned
  rw [List.map_map]; rfl
theorem noRef_V (k : Nat) (L : LL) : noRefR k (L.map fun p => [DV.p (pV p)]) = true := by
  induction L with
  | nil => rfl
  | cons p L ih => simp only [List.map_cons, noRefR, ih]; rfl
theorem perm_turned (L : LL) : permAll (L.map (·.2)) ((turned L).map (·.2)) := by
  induction L with
  | nil => trivial
  | cons p L ih => exact ⟨(List.reverse_perm _).symm, ih⟩
theorem winP_turned (d : Cf) (u : Tk) (L : LL) : winP d u (turned L) = winP d u L := by
  unfold winP
  rw [windowV_perm (perm_turned L)]
theorem turned_ok {L : LL} (h1 : ∀ p, p ∈ L → p.2.length ≤ 10) (h2 : L.length ≤ 6) : LLok (turned L) := by
  refine ⟨fun q hq h => ?_, fun q hq => ?_, by simp [turned]; omega⟩
  · obtain ⟨p, _, rfl⟩ := List.mem_map.1 hq
    simpa using h
  · obtain ⟨p, hp, rfl⟩ := List.mem_map.1 hq
    have := h1 p hp
    simp; omega
theorem law15 (hbeg : PureCall Tryz.prog 18 [] (.p (.bool true))) (c : Cf) (nl : Bool) (ls : LL) (t : Tk) : PureCall Tryz.prog 15 [eCf c, sLL nl ls, eT t] (.p (.bool true)) := by
  have hm := maxLen_eq
  obtain ⟨d, L, hd, h19, h20, hL, hlen, hfew, heach⟩ := kept c nl ls
  have hrl := (cf_head hd).2
  have h21 := one21 d t (by omega)
  have hcut := cut_len t
  generalize t.cut = u at *
  simp only [eCf, eT] at h19 h20 h21
  cases hok : u.ok d.res.length with
  | false =>
    rw [hok] at h21
    refine Fn.run k15 rfl ?_
    generalize Tryz.prog = P at *
    (repeat' ((conv => whnf); first | exact trivial | with_reducible refine zX ?_ | refine ⟨rfl, ?_⟩ | refine ⟨_, rfl, ?_⟩ | with_reducible refine zP ?_ | with_reducible refine zL ?_ | refine ⟨fun _ => ?_, fun _ => ?_⟩ | refine zn ?_ | refine zb rfl ?_ | refine zX ?_ | refine zo rfl ?_ | refine zs ?_ | intro _)); all_goals (try (conv => whnf))
    all_goals first | rfl | exact bool_end hv
  | true =>
    rw [hok] at h21
    have hlim := lim_of hd hok
    have h28 := split28 d hd u hok false L hL hlen
    have h28b := split28 d hd u hok false (turned L) (turned_ok (fun p hp => (heach p hp).2.1) hfew) (by simpa [turned] using hlen)
    rw [winP_turned] at h28b
    have hwl := winP_len (t := u) (L := L) hd hok hfew
    have h37 := fun k n => eqSame37 k n (winP d u L) (by omega)
    simp only [eCf, eT, ePl, sLL] at h28 h28b h37
    have hform : ∃ (k0 : Int) (n0 b0 : Bool), planR 2 (winP d u L) = .tup [.p (.agg [.int .i64 k0, .sl 4 n0 ((winP d u L).map eP)]), .p (.bool b0)] := by
      unfold planR
      by_cases h : winP d u L = []
      · rw [h]; exact ⟨0, true, false, rfl⟩
      · rw [if_neg h]; exact ⟨2, false, true, rfl⟩
    obtain ⟨k0, n0, b0, e0⟩ := hform
    rw [e0] at h28 h28b
    have h37 := h37 k0 n0
    generalize (winP d u L).map eP = W at *
    have hll : (L.map eC).length = L.length := by simp
    have g1 : (((L.map eC).length : Nat) : Int) * 24 ≤ 140737488355328 := by omega
    have g2 : (((L.map eC).length : Nat) : Int) ≤ maxLen := by omega
    have g3 : (0 : Int) ≤ (((L.map eC).length : Nat) : Int) := by omega
    have e2 : (((L.map eC).length : Nat) : Int).toNat = L.length := by rw [Int.toNat_natCast, hll]
    simp only [sLL] at h20
    refine Fn.run k15 rfl ?_
    generalize Tryz.prog = P at *
    (repeat' ((conv => whnf); first | exact trivial | with_reducible refine zX ?_ | refine ⟨rfl, ?_⟩ | refine ⟨_, rfl, ?_⟩ | with_reducible refine zP ?_ | with_reducible refine zL ?_ | refine ⟨fun _ => ?_, fun _ => ?_⟩ | refine zn ?_ | refine zb rfl ?_ | refine zX ?_ | refine zo rfl ?_ | refine zs ?_ | intro _)); all_goals (try (conv => whnf))
    rw [e2]
    refine loop_inv (fun m s => ∃ (i : Nat) (rows : List (List DV)), m + i = L.length ∧ rows = (L.take i).map rV ++ List.replicate (L.length - i) rE ∧
      s = ⟨mkT 90 [(3, .addr 0 5 0 0), (5, .addr 1 4 0 0), (8, .p (.sl 1 false (L.map eC))), (10, .addr 2 2 0 0), (11, .p (.bool b0)), (12, .bs 3 1 false 0 L.length), (44, .p (.int .i64 (L.map eC).length)), (45, .p (.int .i64 i))], [some (bCf d true), some (bTk u), some ⟨true, 2, [[.p (.int .i64 k0), .p (.sl 4 n0 W)]], false⟩, some ⟨true, 1, rows, false⟩, none]⟩) L.length ?_ ?_
    · conv => whnf
      refine ⟨0, List.replicate L.length rE, rfl, rfl, ?_⟩
      rfl
    · rintro m st bb N ⟨i, rows, hi, hrows, e⟩ hN
      cases e
      by_cases hil : i < L.length
      · have hb := lt_t (n := (L.map eC).length) (i := i) (by simpa using hil)
        have hrow : (L.map eC)[i]? = some (sL L[i].1 L[i].2) := by simp [hil, eC]
        have hp10 := (heach _ (List.getElem_mem hil)).2.1
        have htk := List.take_succ_eq_append_getElem hil
        generalize L[i] = p at *
        have htl : ((L.take i).map rV).length = i := by rw [List.length_map, List.length_take]; omega
        have hsub : (0 : Int) ≤ p.2.length := by omega
        have e3 : IntKind.wrap .i64 (((p.2.map eL).length : Int) - 1) = (p.2.length : Int) - 1 := by rw [List.length_map, wrapE (by omega) (by omega)]
        clear h28 h28b h37
        (repeat' ((conv => whnf); first | exact trivial | with_reducible refine zX ?_ | refine ⟨rfl, ?_⟩ | refine ⟨_, rfl, ?_⟩ | with_reducible refine zP ?_ | with_reducible refine zL ?_ | refine ⟨fun _ => ?_, fun _ => ?_⟩ | refine zn ?_ | refine zb rfl ?_ | refine zX ?_ | refine zo rfl ?_ | refine zs ?_ | intro _)); all_goals (try (conv => whnf))
        rw [e3]
        refine loop_inv (fun m s => ∃ (j : Nat) (rows : List (List DV)), m = j ∧ j ≤ p.2.length ∧ rows = (L.take i).map rV ++ [.ow 3 (p.2.drop j).isEmpty ((p.2.drop j).reverse.map eL)] :: List.replicate (L.length - (i + 1)) rE ∧
          s = ⟨mkT 90 [(3, .addr 0 5 0 0), (5, .addr 1 4 0 0), (8, .p (.sl 1 false (L.map eC))), (10, .addr 2 2 0 0), (11, .p (.bool b0)), (12, .bs 3 1 false 0 L.length), (13, .p (.int .i64 i)), (14, .p (.int .i64 ((j : Int) - 1))), (44, .p (.int .i64 (L.map eC).length)), (45, .p (.int .i64 i))], [some (bCf d true), some (bTk u), some ⟨true, 2, [[.p (.int .i64 k0), .p (.sl 4 n0 W)]], false⟩, some ⟨true, 1, rows, false⟩, none]⟩) p.2.length ?_ ?_
        · conv => whnf
          refine ⟨p.2.length, rows, rfl, Nat.le_refl _, ?_, rfl⟩
          rw [hrows, List.drop_length, show L.length - i = (L.length - (i + 1)) + 1 by omega, List.replicate_succ]; rfl
        · rintro m2 st2 bb2 N2 ⟨j, rows2, hj, hjl, hrows2, e⟩ hN2
          cases e
          cases j with
          | zero =>
            have d1 : decide ((((0 : Nat) : Int) - 1) ≥ 0) = false := rfl
            (repeat' ((conv => whnf); first | exact trivial | with_reducible refine zX ?_ | refine ⟨rfl, ?_⟩ | refine ⟨_, rfl, ?_⟩ | with_reducible refine zP ?_ | with_reducible refine zL ?_ | refine ⟨fun _ => ?_, fun _ => ?_⟩ | refine zn ?_ | refine zb rfl ?_ | refine zX ?_ | refine zo rfl ?_ | refine zs ?_ | intro _)); all_goals (try (conv => whnf))
            rw [next1 (n := L.length) hil (by omega)]
            refine hN (m - 1) _ (by omega) ⟨i + 1, rows2, by omega, ?_, rfl⟩
            rw [hrows2, htk, List.map_append, List.append_assoc]; rfl
          | succ j =>
            have d1 : decide ((((j + 1 : Nat) : Int) - 1) ≥ 0) = true := decide_eq_true (by omega)
            have e4 : (((j + 1 : Nat) : Int) - 1).toNat = j := by omega
            have i1 : (0 : Int) ≤ ((j + 1 : Nat) : Int) - 1 := by omega
            have i2 : (i : Int) < (((L.length) : Nat) : Int) := by omega
            have hl1 : (p.2.map eL)[(((j + 1 : Nat) : Int) - 1).toNat]? = some (.agg [.int .i64 p.2[j].c, .int .i64 p.2[j].d, .int .i64 p.2[j].t]) := by rw [e4]; simp [show j < p.2.length by omega, eL]
            have hdr : (p.2.drop j) = p.2[j] :: p.2.drop (j + 1) := List.drop_eq_getElem_cons (by omega)
            have hdl : (p.2.drop (j + 1)).length ≤ 10 := by rw [List.length_drop]; omega
            have hr1 : rows2[0 + (i : Int).toNat]? = some [.ow 3 (p.2.drop (j + 1)).isEmpty ((p.2.drop (j + 1)).reverse.map eL)] := by
              rw [Nat.zero_add, Int.toNat_natCast, hrows2, List.getElem?_append_right (by omega), htl, Nat.sub_self]; rfl
            have hr2 : (setL rows2 (0 + (i : Int).toNat) [DV.copy (.ow 3 (p.2.drop (j + 1)).isEmpty ((p.2.drop (j + 1)).reverse.map eL))])[0 + (i : Int).toNat]? = some [DV.copy (.ow 3 (p.2.drop (j + 1)).isEmpty ((p.2.drop (j + 1)).reverse.map eL))] := by
              rw [getElem?_setL, if_pos rfl, hr1]; rfl
            have hset : ∀ x y : List DV, setL (setL rows2 (0 + (i : Int).toNat) x) (0 + (i : Int).toNat) y = (L.take i).map rV ++ y :: List.replicate (L.length - (i + 1)) rE := fun x y => by
              have m1 := setL_mid ((L.take i).map rV) (List.replicate (L.length - (i + 1)) rE) [.ow 3 (p.2.drop (j + 1)).isEmpty ((p.2.drop (j + 1)).reverse.map eL)] x
              have m2 := setL_mid ((L.take i).map rV) (List.replicate (L.length - (i + 1)) rE) x y
              rw [htl] at m1 m2
              rw [Nat.zero_add, Int.toNat_natCast, hrows2, m1, m2]
            have e5 : IntKind.wrap .i64 (((j + 1 : Nat) : Int) - 1 - 1) = (j : Int) - 1 := by rw [wrapE (by omega) (by omega)]; omega
            have hrl : (((p.2.drop (j + 1)).reverse.map eL).length) ≤ 10 := by rw [List.length_map, List.length_reverse]; exact hdl
            clear hN
            generalize hR : (p.2.drop (j + 1)).reverse.map eL = R at *
            generalize hE : (p.2.drop (j + 1)).isEmpty = E at *
            generalize hx : p.2[j]'(by omega) = x at *
            (repeat' ((conv => whnf); first | exact trivial | with_reducible refine zX ?_ | refine ⟨rfl, ?_⟩ | refine ⟨_, rfl, ?_⟩ | with_reducible refine zP ?_ | with_reducible refine zL ?_ | refine ⟨fun _ => ?_, fun _ => ?_⟩ | refine zn ?_ | refine zb rfl ?_ | refine zX ?_ | refine zo rfl ?_ | refine zs ?_ | intro _)); all_goals (try (conv => whnf))
            rw [e5]
            refine hN2 (m2 - 1) _ (by omega) ⟨j, _, by omega, by omega, ?_, rfl⟩
            rw [hset, hdr, List.reverse_cons, List.map_append, hR]
            simp only [List.isEmpty_cons, Bool.and_false]
            rfl
      · have hb := lt_f (n := (L.map eC).length) (i := i) (by simpa using hil)
        have hin : L.length - i = 0 := by omega
        rw [hin, List.replicate_zero, List.append_nil, List.take_of_length_le (by omega)] at hrows
        have hc1 : copiesR rows = L.map fun p => [DV.p (pV p)] := by rw [hrows]; exact copiesR_V L
        have hap : allPR (copiesR rows) = true := by rw [hc1]; exact allPR_one _ _
        have hnr : ∀ k, noRefR k (copiesR rows) = true := fun k => by rw [hc1]; exact noRef_V _ _
        clear hN heach
        (repeat' ((conv => whnf); first | exact trivial | with_reducible refine zX ?_ | refine ⟨rfl, ?_⟩ | refine ⟨_, rfl, ?_⟩ | with_reducible refine zP ?_ | with_reducible refine zL ?_ | refine ⟨fun _ => ?_, fun _ => ?_⟩ | refine zn ?_ | refine zb rfl ?_ | refine zX ?_ | refine zo rfl ?_ | refine zs ?_ | intro _)); all_goals (try (conv => whnf))
        refine call_ok (frz3 (frz_bs (k := 3) (size := 1) (n := L.length) (ag := false) (bx := ⟨false, 1, copiesR rows, false⟩) rfl ⟨rfl, .inr rfl, rfl, by rw [hc1, List.length_map]⟩ (by rw [hc1]; exact rowsP_V L))) h28b ?_
        (repeat' ((conv => whnf); first | exact trivial | with_reducible refine zX ?_ | refine ⟨rfl, ?_⟩ | refine ⟨_, rfl, ?_⟩ | with_reducible refine zP ?_ | with_reducible refine zL ?_ | refine ⟨fun _ => ?_, fun _ => ?_⟩ | refine zn ?_ | refine zb rfl ?_ | refine zX ?_ | refine zo rfl ?_ | refine zs ?_ | intro _)); all_goals (try (conv => whnf))
        refine test_ok ⟨Nat.le_of_ble_eq_true rfl, rfl, by simp only [noRefB, hnr]; rfl⟩ ?_
        cases b0 with
        | false =>
          (repeat' ((conv => whnf); first | exact trivial | with_reducible refine zX ?_ | refine ⟨rfl, ?_⟩ | refine ⟨_, rfl, ?_⟩ | with_reducible refine zP ?_ | with_reducible refine zL ?_ | refine ⟨fun _ => ?_, fun _ => ?_⟩ | refine zn ?_ | refine zb rfl ?_ | refine zX ?_ | refine zo rfl ?_ | refine zs ?_ | intro _)); all_goals (try (conv => whnf))
          all_goals rfl
        | true =>
          (repeat' ((conv => whnf); first | exact trivial | with_reducible refine zX ?_ | refine ⟨rfl, ?_⟩ | refine ⟨_, rfl, ?_⟩ | with_reducible refine zP ?_ | with_reducible refine zL ?_ | refine ⟨fun _ => ?_, fun _ => ?_⟩ | refine zn ?_ | refine zb rfl ?_ | refine zX ?_ | refine zo rfl ?_ | refine zs ?_ | intro _)); all_goals (try (conv => whnf))
          all_goals rfl
end Go.Proofs.YtkjghcbnmipgfaaGreatDoor.Vc
