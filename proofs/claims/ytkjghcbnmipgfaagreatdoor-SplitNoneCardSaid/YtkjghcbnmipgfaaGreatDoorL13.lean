/- Contract of the law of number 13: it answers true. No condition. -/
import Derived.Test.YtkjghcbnmipgfaaGreatDoorA36
set_option linter.unusedSectionVars false
set_option linter.unusedSimpArgs false
set_option linter.unusedVariables false
set_option maxHeartbeats 4000000
set_option maxRecDepth 100000
namespace Go.Proofs.YtkjghcbnmipgfaaGreatDoor.Vc
open Go.RowKit Ma
def F13 : Fn := ⟨112, 9, [.tmp 6],
 (.seq
 (.reg [ii 3 (.box 0 5) [.t 0],
 ii 4 (.box 1 4) [.t 1],
 mc 6 (.bool false)])
 (.seq
 (.reg [ii 22 (.call 18) [],
 mt 7 22])
 (.seq
 (.seq
 (.reg [mv 23 7,
 ii 24 (.un .not) [.t 23]])
 (.cond (.t 24)
 (.seq
 (.reg [mc 6 (.bool false)])
 .ret)
 .skip))
 (.seq
 (.reg [ii 25 (.load 5 true false) [.t 3],
 ii 26 (.call 19) [.t 25],
 ⟨none, none, .store 5, [.t 3, .t 26]⟩])
 (.seq
 (.reg [ii 28 (.load 5 true false) [.t 3],
 ii 29 (.load 4 true false) [.t 4],
 ii 30 (.call 21) [.t 28, .t 29],
 mv 27 30,
 ii 31 (.ext 0) [.t 27],
 ii 32 (.ext 1) [.t 27],
 ⟨none, none, .store 4, [.t 4, .t 31]⟩,
 mt 8 32])
 (.seq
 (.seq
 (.reg [mv 33 8,
 ii 34 (.un .not) [.t 33]])
 (.cond (.t 34)
 (.seq
 (.reg [mc 6 (.bool true)])
 .ret)
 .skip))
 (.seq
 (.reg [fa 35 0 3,
 ld 36 35,
 ⟨some 37, none, .mksl 2 1 24 false [.ow 3 true []], [.t 36, .t 36]⟩,
 mt 9 37])
 (.seq
 (.seq
 (.reg [mv 38 9,
 ii 39 .len [.t 38],
 ii 40 (.mov false) [.c (.p (.int .i64 0))]])
 (.block 0
 (.loop [0, 1, 2, 6, 7, 8, 10, 11, 12, 13, 14, 15, 16, 17, 18, 19, 20, 21, 22, 23, 24, 25, 26, 27, 28, 29, 30, 31, 32, 33, 34, 35, 36, 37, 38, 41, 42, 43, 44, 45, 46, 47, 48, 49, 50, 51, 52, 53, 54, 55, 56, 57, 58, 59, 60, 61, 62, 63, 64, 65, 66, 67, 68, 69, 70, 71, 72, 73, 74, 75, 76, 77, 78, 79, 80, 81, 82, 83, 84, 85, 86, 87, 88, 89, 90, 91, 92, 93, 94, 95, 96, 97, 98, 99, 100, 101, 102, 103, 104, 105, 106, 107, 108, 109, 110, 111] []
 (.seq
 (.reg [b2 41 .lss 40 39])
 (.seq
 (.cond (.t 41)
 .skip
 (.exit 0))
 (.seq
 (.block 1
 (.seq
 (.reg [mv 42 40,
 mt 10 42])
 (.reg [mv 43 9,
 mv 44 10,
 ⟨some 45, none, .build [.int .i64 0, .int .i64 0, .int .i64 0] [(0, 1), (1, 1), (2, 1)], [.c (.p (.int .i64 7)), .c (.p (.int .i64 7)), .c (.p (.int .i64 7))]⟩,
 ii 46 (.bsl 3 1) [.t 45],
 ii 47 (.iad 1) [.t 43, .t 44],
 ⟨none, none, .store 1, [.t 47, .t 46]⟩])))
 (.reg [b1 48 .add 40 (.int .i64 1),
 mv 40 48])))))))
 (.seq
 (.pre [] [2] [] (.reg [ii 50 (.load 5 true false) [.t 3],
 mv 51 9,
 ii 52 (.load 4 true false) [.t 4],
 ii 53 (.call 28) [.t 50, .t 51, .t 52],
 mv 49 53,
 ii 54 (.ext 0) [.t 49],
 ii 55 (.ext 1) [.t 49],
 ⟨some 11, none, .alloc 3 2 [.p (.int .i64 0), .ow 4 true []], []⟩,
 ⟨none, none, .store 2, [.t 11, .t 54]⟩,
 mt 12 55]))
 (.seq
 (.pre [] [2] [] (.reg [ii 57 (.load 5 true false) [.t 3],
 mv 58 9,
 ii 59 (.load 4 true false) [.t 4],
 ii 60 (.call 32) [.t 57, .t 58, .t 59],
 mv 56 60,
 ii 61 (.ext 0) [.t 56],
 ii 62 (.ext 1) [.t 56],
 ⟨some 13, none, .alloc 4 2 [.p (.int .i64 0), .ow 4 true []], []⟩,
 ⟨none, none, .store 2, [.t 13, .t 61]⟩,
 mt 14 62]))
 (.seq
 (.reg [ii 63 (.load 5 true false) [.t 3],
 ⟨some 15, none, .alloc 5 5 [.p (.int .i64 0), .p (.int .i64 0), .p (.int .i64 0), .p (.int .i64 0), .ow 1 true []], []⟩,
 ⟨none, none, .store 5, [.t 15, .t 63]⟩])
 (.seq
 (.reg [fa 64 0 15,
 ⟨none, none, .store 1, [.t 64, .c (.p (.int .i64 1))]⟩])
 (.seq
 (.pre [16] [] [6] (.rega [ii 66 (.at 5 (.load 5 true false)) [.t 15],
 ⟨some 67, none, .mkz 1 24 (.sl 3 true []), [.c (.p (.int .i64 1)), .c (.p (.int .i64 1))]⟩,
 ii 68 (.at 1 (.load 4 true false)) [.t 4],
 ii 69 (.pl (.call 28)) [.t 66, .t 67, .t 68],
 mv 65 69,
 ii 70 (.extp 0) [.t 65],
 ii 71 (.extp 1) [.t 65],
 ⟨some 16, none, .alloc 6 2 [.p (.int .i64 0), .ow 4 true []], []⟩,
 ⟨none, none, .at 6 (.store 2), [.t 16, .t 70]⟩,
 mt 17 71]))
 (.seq
 (.pre [18] [] [7] (.rega [ii 73 (.at 5 (.load 5 true false)) [.t 15],
 ⟨some 74, none, .mkz 1 24 (.sl 3 true []), [.c (.p (.int .i64 1)), .c (.p (.int .i64 1))]⟩,
 ii 75 (.at 1 (.load 4 true false)) [.t 4],
 ii 76 (.pl (.call 32)) [.t 73, .t 74, .t 75],
 mv 72 76,
 ii 77 (.extp 0) [.t 72],
 ii 78 (.extp 1) [.t 72],
 ⟨some 18, none, .alloc 7 2 [.p (.int .i64 0), .ow 4 true []], []⟩,
 ⟨none, none, .at 7 (.store 2), [.t 18, .t 77]⟩,
 mt 19 78]))
 (.seq
 (.pre [20] [] [8] (.rega [ii 80 (.at 0 (.load 5 true false)) [.t 3],
 fa 81 0 3,
 ii 82 (.at 0 (.load 1 false false)) [.t 81],
 ⟨some 83, none, .mkz 1 24 (.sl 3 true []), [.t 82, .t 82]⟩,
 ii 84 (.at 1 (.load 4 true false)) [.t 4],
 ii 85 (.pl (.call 28)) [.t 80, .t 83, .t 84],
 mv 79 85,
 ii 86 (.extp 0) [.t 79],
 ii 87 (.extp 1) [.t 79],
 ⟨some 20, none, .alloc 8 2 [.p (.int .i64 0), .ow 4 true []], []⟩,
 ⟨none, none, .at 8 (.store 2), [.t 20, .t 86]⟩,
 mt 21 87]))
 (.seq
 (.reg [mv 88 12,
 ii 89 (.un .not) [.t 88],
 mv 90 89,
 gt 91 90 (.mov false) [.t 14],
 gt 92 90 (.un .not) [.t 91],
 ii 93 .pick [.t 90, .t 92, .c (.p (.bool false))],
 mv 94 93,
 gt 95 94 (.mov false) [.t 17],
 gt 96 94 (.un .not) [.t 95],
 ii 97 .pick [.t 94, .t 96, .c (.p (.bool false))],
 mv 98 97,
 gt 99 98 (.mov false) [.t 19],
 gt 100 98 (.un .not) [.t 99],
 ii 101 .pick [.t 98, .t 100, .c (.p (.bool false))],
 mv 102 101,
 gt 103 102 (.fad 3) [.t 4],
 gt 104 102 (.load 1 false false) [.t 103],
 gt 105 102 .len [.t 104],
 gt 106 102 (.bin .eql) [.t 105, .c (.p (.int .i64 0))],
 gt 107 102 (.mov false) [.t 106],
 gf 108 107 (.mov false) [.t 21],
 gf 109 107 (.un .not) [.t 108],
 gt 110 102 .pick [.t 107, .c (.p (.bool true)), .t 109],
 ii 111 .pick [.t 102, .t 110, .c (.p (.bool false))],
 mt 6 111])
 .ret))))))))))))))))⟩
theorem k13 : chkF Tryz.prog 13 F13 = true := by kernel_rfl
def rF : List DV := [.ow 3 false [.agg [.int .i64 7, .int .i64 7, .int .i64 7]]]
def rE : List DV := [.ow 3 true []]
theorem setL_mid {α : Type} (a b : List α) (x y : α) : setL (a ++ x :: b) a.length y = a ++ y :: b := by
  induction a with
  | nil => rfl
  | cons z a ih => simp only [List.cons_append, List.length_cons, setL, ih]
theorem fill_next (i k : Nat) : setL (List.replicate i rF ++ List.replicate (k + 1) rE) i rF = List.replicate (i + 1) rF ++ List.replicate k rE := by
  have := setL_mid (List.replicate i rF) (List.replicate k rE) rE rF
  rw [List.length_replicate] at this
  rw [List.replicate_succ, this, List.replicate_succ', List.append_assoc]; rfl
theorem planR_form (k : Int) (W : List Pc) : ∃ (k0 : Int) (n0 b0 : Bool), planR k W = .tup [.p (.agg [.int .i64 k0, .sl 4 n0 (W.map eP)]), .p (.bool b0)] ∧ (W = [] → b0 = false) := by
  unfold planR
  by_cases h : W = []
  · subst h; exact ⟨0, true, false, rfl, fun _ => rfl⟩
  · rw [if_neg h]; exact ⟨k, false, true, rfl, fun e => absurd e h⟩
theorem call_ok {P : Program} {f : FuncId} {b : List (Option Box)} {xs : List DV} {args : List PV} {r : DV} {K : DV → Prop} (h : frzs b xs = some args) (hc : PureCall P f args r) (hk : K r) :
    (match frzs b xs with | some args => ∃ r, PureCall P f args r ∧ K r | none => False) := by rw [h]; exact ⟨r, hc, hk⟩
theorem frz3 {b : List (Option Box)} {d : DV} {x A B : PV} (h : DV.frz b d = some x) : frzs b [.p A, d, .p B] = some [A, x, B] := by
  simp only [frzs, h]; rfl
theorem copiesR_F (n : Nat) : copiesR (List.replicate n rF) = List.replicate n [.p (.sl 3 false [.agg [.int .i64 7, .int .i64 7, .int .i64 7]])] := by
  rw [copiesR_eq, List.map_replicate]; rfl
theorem copiesR_2 (n : Nat) (x : PV) : copiesR (List.replicate n [.p x]) = List.replicate n [.p x] := by
  rw [copiesR_eq, List.map_replicate]; rfl
theorem allPR_rep (n : Nat) (x : PV) : allPR (List.replicate n [.p x]) = true := by
  induction n with
  | zero => rfl
  | succ n ih => simp only [List.replicate_succ, allPR, ih]; rfl
theorem noRef_rep (k n : Nat) (x : PV) : noRefR k (List.replicate n [.p x]) = true := by
  induction n with
  | zero => rfl
  | succ n ih => simp only [List.replicate_succ, noRefR, ih]; rfl
theorem rowsP_rep (n : Nat) (x : PV) : rowsP false (List.replicate n [.p x]) = some (List.replicate n x) := by
  induction n with
  | zero => rfl
  | succ n ih => simp only [List.replicate_succ, rowsP, cellsP, ih]; rfl
theorem testB_ok {b : Bool} {A : Prop} (h : b = true) (k : A) : testB b A := by subst h; exact k
theorem cf_one {d : Cf} (hd : d.ok = true) : (⟨1, d.syncs, d.lag, d.move, d.nl, d.res⟩ : Cf).ok = true := by
  obtain ⟨h1, h2⟩ := cf_head hd
  unfold headR at h1
  unfold Cf.ok at hd ⊢
  rw [Bool.and_eq_true] at hd ⊢
  refine ⟨decide_eq_true (show (1 ≤ (1 : Int) ∧ (1 : Int) ≤ 6) ∧ (0 ≤ d.syncs ∧ d.syncs ≤ 3) ∧ (0 ≤ d.lag ∧ d.lag ≤ 5) ∧ (0 ≤ d.move ∧ d.move ≤ 5) from ?_), hd.2⟩
  omega
theorem ll_rep (n : Nat) (hn : n ≤ 1000) (p : Bool × List Ld) (h1 : p.1 = true → p.2 = []) (h2 : p.2.length ≤ 1000) : LLok (List.replicate n p) :=
  ⟨fun q hq => by rw [(List.mem_replicate.1 hq).2]; exact h1, fun q hq => by rw [(List.mem_replicate.1 hq).2]; exact h2, by simpa using hn⟩
theorem law13 (hbeg : PureCall Tryz.prog 18 [] (.p (.bool true))) (c : Cf) (t : Tk) (n0 : Int) : PureCall Tryz.prog 13 [eCf c, eT t, .int .i64 n0] (.p (.bool true)) := by
  have hm := maxLen_eq
  obtain ⟨d, L0, hd, h19, -, -, -, -, -⟩ := kept c true []
  have hrl := (cf_head hd).2
  have h21 := one21 d t (by omega)
  have hcut := cut_len t
  generalize t.cut = u at *
  simp only [eCf, eT] at h19 h21
  cases hok : u.ok d.res.length with
  | false =>
    rw [hok] at h21
    refine Fn.run k13 rfl ?_
    generalize Tryz.prog = P at *
    (repeat' ((conv => whnf); first | exact trivial | with_reducible refine zX ?_ | refine ⟨rfl, ?_⟩ | refine ⟨_, rfl, ?_⟩ | with_reducible refine zP ?_ | with_reducible refine zL ?_ | refine ⟨fun _ => ?_, fun _ => ?_⟩ | refine zn ?_ | refine zb rfl ?_ | refine zX ?_ | refine zo rfl ?_ | refine zs ?_ | intro _)); all_goals (try (conv => whnf))
    all_goals rfl
  | true =>
    rw [hok] at h21
    have hlim := lim_of hd hok
    obtain ⟨c1, c2, l1, l2, m1, m2, C1, CD, DT, T2⟩ := id hlim
    obtain ⟨n, hn⟩ : ∃ n : Nat, d.cores.toNat = n := ⟨_, rfl⟩
    have hnc : d.cores = (n : Int) := by omega
    have hLf := ll_rep n (by omega) (false, [⟨7, 7, 7⟩]) (fun h => by cases h) (by simp)
    have hL0 := ll_rep n (by omega) (true, []) (fun _ => rfl) (by simp)
    have hL1 := ll_rep 1 (by omega) (true, []) (fun _ => rfl) (by simp)
    have hfl : ∀ l, l ∈ (List.replicate n (false, [(⟨7, 7, 7⟩ : Ld)])).map (·.2) → l = [⟨7, 7, 7⟩] := fun l hl => by
      rw [List.map_replicate] at hl; exact (List.mem_replicate.1 hl).2
    have hwf : winP d u (List.replicate n (false, [⟨7, 7, 7⟩])) = [] := by unfold winP; split <;> first | exact full_window l1 m1 C1 hfl _ _ | rfl
    have hzf : zerP d u (List.replicate n (false, [⟨7, 7, 7⟩])) = [] := by unfold zerP; split <;> first | exact full_zero hfl | rfl
    have h28a := split28 d hd u hok false _ hLf (by rw [List.length_replicate]; omega)
    have h32a := zero32 d hd u hok false _ hLf (by rw [List.length_replicate]; omega)
    rw [hwf] at h28a
    rw [hzf] at h32a
    have hd1 := cf_one hd
    have hw1 : winP ⟨1, d.syncs, d.lag, d.move, d.nl, d.res⟩ u (List.replicate 1 (true, [])) = [] := by unfold winP; split <;> rfl
    have hz1 : zerP ⟨1, d.syncs, d.lag, d.move, d.nl, d.res⟩ u (List.replicate 1 (true, [])) = [] := by unfold zerP; split <;> first | exact one_zero (by simp) | rfl
    have h28b := split28 ⟨1, d.syncs, d.lag, d.move, d.nl, d.res⟩ hd1 u hok false _ hL1 rfl
    have h32b := zero32 ⟨1, d.syncs, d.lag, d.move, d.nl, d.res⟩ hd1 u hok false _ hL1 rfl
    rw [hw1] at h28b
    rw [hz1] at h32b
    have h28c := split28 d hd u hok false _ hL0 (by rw [List.length_replicate]; omega)
    have hwc : u.secs ≠ [] → winP d u (List.replicate n (true, [])) = [] := fun h => by unfold winP; rw [if_neg h]
    obtain ⟨k0, n0', b0, e0, f0⟩ := planR_form 2 (winP d u (List.replicate n (true, [])))
    rw [e0] at h28c
    have hsec : b0 = true → (((u.secs.map eS).length : Int) == 0) = true := fun h => by
      have : u.secs = [] := Classical.byContradiction fun hs => by have := f0 (hwc hs); rw [h] at this; cases this
      rw [this]; rfl
    simp only [sLL, List.map_replicate] at h28a h32a h28b h32b h28c
    rw [← hn] at h28c
    generalize winP d u (List.replicate n (true, [])) = Wc at *
    simp only [eCf, eT] at h28a h32a h28b h32b h28c
    unfold planR at h28a h32a h28b h32b
    rw [if_pos rfl] at h28a h32a h28b h32b
    simp only [ePl] at h28a h32a h28b h32b
    have g1 : d.cores * 24 ≤ 140737488355328 := by omega
    have g2 : d.cores ≤ maxLen := by omega
    have g3 : (0 : Int) ≤ d.cores := by omega
    refine Fn.run k13 rfl ?_
    generalize Tryz.prog = P at *
    (repeat' ((conv => whnf); first | exact trivial | with_reducible refine zX ?_ | refine ⟨rfl, ?_⟩ | refine ⟨_, rfl, ?_⟩ | with_reducible refine zP ?_ | with_reducible refine zL ?_ | refine ⟨fun _ => ?_, fun _ => ?_⟩ | refine zn ?_ | refine zb rfl ?_ | refine zX ?_ | refine zo rfl ?_ | refine zs ?_ | intro _)); all_goals (try (conv => whnf))
    rw [hn]
    refine loop_inv (fun m s => ∃ i : Nat, m + i = n ∧ s = ⟨mkT 112 [(3, .addr 0 5 0 0), (4, .addr 1 4 0 0), (9, .bs 2 1 false 0 n), (39, .p (.int .i64 n)), (40, .p (.int .i64 i))], [some (bCf d true), some (bTk u), some ⟨true, 1, List.replicate i rF ++ List.replicate (n - i) rE, false⟩, none, none, none, none, none, none]⟩) n ?_ ?_
    · conv => whnf
      exact ⟨0, rfl, rfl⟩
    · rintro m st bb N ⟨i, hi, e⟩ hN
      cases e
      by_cases hil : i < n
      · have hb : decide ((i : Int) < (n : Int)) = true := lt_t hil
        have hrow : (List.replicate i rF ++ List.replicate (n - i) rE)[0 + (i : Int).toNat]? = some rE := by
          rw [Nat.zero_add, Int.toNat_natCast, List.getElem?_append_right (by simp), List.length_replicate, Nat.sub_self, show n - i = (n - (i + 1)) + 1 by omega, List.replicate_succ]; rfl
        have hfn := fill_next i (n - (i + 1))
        rw [show n - (i + 1) + 1 = n - i by omega] at hfn
        have i1 : (i : Int) < (n : Int) := by omega
        clear h28a h32a h28b h32b h28c
        (repeat' ((conv => whnf); first | exact trivial | with_reducible refine zX ?_ | refine ⟨rfl, ?_⟩ | refine ⟨_, rfl, ?_⟩ | with_reducible refine zP ?_ | with_reducible refine zL ?_ | refine ⟨fun _ => ?_, fun _ => ?_⟩ | refine zn ?_ | refine zb rfl ?_ | refine zX ?_ | refine zo rfl ?_ | refine zs ?_ | intro _)); all_goals (try (conv => whnf))
        rw [next1 (n := n) hil (by omega)]
        refine hN (m - 1) _ (by omega) ⟨i + 1, by omega, ?_⟩
        rw [← hfn, Nat.zero_add]; rfl
      · have hb : decide ((i : Int) < (n : Int)) = false := lt_f hil
        have hin : i = n := by omega
        subst hin
        rw [Nat.sub_self, List.replicate_zero, List.append_nil]
        have hap : allPR (copiesR (List.replicate i rF)) = true := by rw [copiesR_F]; exact allPR_rep _ _
        have hc2 : copiesR (copiesR (List.replicate i rF)) = List.replicate i [.p (.sl 3 false [.agg [.int .i64 7, .int .i64 7, .int .i64 7]])] := by rw [copiesR_F, copiesR_2]
        have hnr : ∀ k, noRefR k (copiesR (List.replicate i rF)) = true := fun k => by rw [copiesR_F]; exact noRef_rep _ _ _
        have hnr2 : ∀ k, noRefR k (copiesR (copiesR (List.replicate i rF))) = true := fun k => by rw [hc2]; exact noRef_rep _ _ _
        have hap2 : allPR (copiesR (copiesR (List.replicate i rF))) = true := by rw [hc2]; exact allPR_rep _ _
        have hz : (d.cores == d.cores) = true := by simp
        clear hN
        (repeat' ((conv => whnf); first | exact trivial | with_reducible refine zX ?_ | refine ⟨rfl, ?_⟩ | refine ⟨_, rfl, ?_⟩ | with_reducible refine zP ?_ | with_reducible refine zL ?_ | refine ⟨fun _ => ?_, fun _ => ?_⟩ | refine zn ?_ | refine zb rfl ?_ | refine zX ?_ | refine zo rfl ?_ | refine zs ?_ | intro _)); all_goals (try (conv => whnf))
        refine call_ok (frz3 (frz_bs (k := 2) (size := 1) (n := i) (ag := false) (bx := ⟨false, 1, copiesR (List.replicate i rF), false⟩) rfl ⟨rfl, .inr rfl, rfl, by rw [copiesR_F, List.length_replicate]⟩ (by rw [copiesR_F]; exact rowsP_rep _ _))) h28a ?_
        (repeat' ((conv => whnf); first | exact trivial | with_reducible refine zX ?_ | refine ⟨rfl, ?_⟩ | refine ⟨_, rfl, ?_⟩ | with_reducible refine zP ?_ | with_reducible refine zL ?_ | refine ⟨fun _ => ?_, fun _ => ?_⟩ | refine zn ?_ | refine zb rfl ?_ | refine zX ?_ | refine zo rfl ?_ | refine zs ?_ | intro _)); all_goals (try (conv => whnf))
        refine test_ok ⟨Nat.le_of_ble_eq_true rfl, rfl, by simp only [noRefB, hnr]; rfl⟩ ?_
        (repeat' ((conv => whnf); first | exact trivial | with_reducible refine zX ?_ | refine ⟨rfl, ?_⟩ | refine ⟨_, rfl, ?_⟩ | with_reducible refine zP ?_ | with_reducible refine zL ?_ | refine ⟨fun _ => ?_, fun _ => ?_⟩ | refine zn ?_ | refine zb rfl ?_ | refine zX ?_ | refine zo rfl ?_ | refine zs ?_ | intro _)); all_goals (try (conv => whnf))
        refine call_ok (frz3 (frz_bs (k := 2) (size := 1) (n := i) (ag := false) (bx := ⟨false, 1, copiesR (copiesR (List.replicate i rF)), false⟩) rfl ⟨rfl, .inr rfl, rfl, by rw [hc2, List.length_replicate]⟩ (by rw [hc2]; exact rowsP_rep _ _))) h32a ?_
        clear h28a h32a hc2 hap2 hap
        cases b0 with
        | false =>
          by_cases hs : (((u.secs.map eS).length : Int) == 0) = true
          · iterate 8
              first | refine test_ok ⟨Nat.le_of_ble_eq_true rfl, rfl, by simp only [noRefB, hnr2]; rfl⟩ ?_ | refine testB_ok (b := invB _ _) (by simp only [invB, List.all_cons, List.all_nil, alB, noRefB, hnr2]; rfl) ?_
              (repeat' ((conv => whnf); first | exact trivial | with_reducible refine zX ?_ | refine ⟨rfl, ?_⟩ | refine ⟨_, rfl, ?_⟩ | with_reducible refine zP ?_ | with_reducible refine zL ?_ | refine ⟨fun _ => ?_, fun _ => ?_⟩ | refine zn ?_ | refine zb rfl ?_ | refine zX ?_ | refine zo rfl ?_ | refine zs ?_ | intro _)); all_goals (try (conv => whnf))
            all_goals rfl
          · have hs : (((u.secs.map eS).length : Int) == 0) = false := by simpa using hs
            iterate 8
              first | refine test_ok ⟨Nat.le_of_ble_eq_true rfl, rfl, by simp only [noRefB, hnr2]; rfl⟩ ?_ | refine testB_ok (b := invB _ _) (by simp only [invB, List.all_cons, List.all_nil, alB, noRefB, hnr2]; rfl) ?_
              (repeat' ((conv => whnf); first | exact trivial | with_reducible refine zX ?_ | refine ⟨rfl, ?_⟩ | refine ⟨_, rfl, ?_⟩ | with_reducible refine zP ?_ | with_reducible refine zL ?_ | refine ⟨fun _ => ?_, fun _ => ?_⟩ | refine zn ?_ | refine zb rfl ?_ | refine zX ?_ | refine zo rfl ?_ | refine zs ?_ | intro _)); all_goals (try (conv => whnf))
            all_goals rfl
        | true =>
          have hs := hsec rfl
          iterate 8
            first | refine test_ok ⟨Nat.le_of_ble_eq_true rfl, rfl, by simp only [noRefB, hnr2]; rfl⟩ ?_ | refine testB_ok (b := invB _ _) (by simp only [invB, List.all_cons, List.all_nil, alB, noRefB, hnr2]; rfl) ?_
            (repeat' ((conv => whnf); first | exact trivial | with_reducible refine zX ?_ | refine ⟨rfl, ?_⟩ | refine ⟨_, rfl, ?_⟩ | with_reducible refine zP ?_ | with_reducible refine zL ?_ | refine ⟨fun _ => ?_, fun _ => ?_⟩ | refine zn ?_ | refine zb rfl ?_ | refine zX ?_ | refine zo rfl ?_ | refine zs ?_ | intro _)); all_goals (try (conv => whnf))
          all_goals rfl
end Go.Proofs.YtkjghcbnmipgfaaGreatDoor.Vc
