/- Part of a proof over a Go program: Fct. No condition. -/
import Derived.Test.YtkjghcbnmipgfaaGreatDoorA26
import Derived.KernelRfl
set_option linter.unusedSectionVars false
set_option linter.unusedSimpArgs false
set_option linter.unusedVariables false
set_option maxRecDepth 1000000
namespace Go.Proofs.YtkjghcbnmipgfaaGreatDoor.Vc
open Go.RowKit
theorem parse0 : PureCall Tryz.prog 151 [.str ⟨⟨[48]⟩⟩] (.p (.int .i64 0)) := (envB_ok 100).call 151 [.str ⟨⟨[48]⟩⟩] (.p (.int .i64 0)) (by kernel_rfl)
theorem parse1 : PureCall Tryz.prog 151 [.str ⟨⟨[49]⟩⟩] (.p (.int .i64 1)) := (envB_ok 100).call 151 [.str ⟨⟨[49]⟩⟩] (.p (.int .i64 1)) (by kernel_rfl)
theorem parse2 : PureCall Tryz.prog 151 [.str ⟨⟨[50]⟩⟩] (.p (.int .i64 2)) := (envB_ok 100).call 151 [.str ⟨⟨[50]⟩⟩] (.p (.int .i64 2)) (by kernel_rfl)
theorem parse3 : PureCall Tryz.prog 151 [.str ⟨⟨[51]⟩⟩] (.p (.int .i64 3)) := (envB_ok 100).call 151 [.str ⟨⟨[51]⟩⟩] (.p (.int .i64 3)) (by kernel_rfl)
theorem parse8 : PureCall Tryz.prog 151 [.str ⟨⟨[56]⟩⟩] (.p (.int .i64 8)) := (envB_ok 100).call 151 [.str ⟨⟨[56]⟩⟩] (.p (.int .i64 8)) (by kernel_rfl)
theorem parse10 : PureCall Tryz.prog 151 [.str ⟨⟨[49, 48]⟩⟩] (.p (.int .i64 10)) := (envB_ok 100).call 151 [.str ⟨⟨[49, 48]⟩⟩] (.p (.int .i64 10)) (by kernel_rfl)
def ents : List (List UInt8 × Int) := [([48], 0), ([49], 1), ([50], 2), ([51], 3), ([56], 8), ([49, 48], 10)]
theorem ents_ok : ∀ e, e ∈ ents → PureCall Tryz.prog 151 [.str ⟨⟨e.1⟩⟩] (.p (.int .i64 e.2)) := by
  intro e he
  simp only [ents, List.mem_cons, List.not_mem_nil, or_false] at he
  rcases he with rfl | rfl | rfl | rfl | rfl | rfl
  · exact parse0
  · exact parse1
  · exact parse2
  · exact parse3
  · exact parse8
  · exact parse10
def bytesB : List UInt8 → List UInt8 → Bool
  | [], [] => true
  | a :: l, b :: m => Nat.beq a.toNat b.toNat && bytesB l m
  | _, _ => false
theorem bytesB_eq : ∀ {a b : List UInt8}, bytesB a b = true → a = b := by
  intro a
  induction a with
  | nil => intro b h; cases b with
    | nil => rfl
    | cons _ _ => cases h
  | cons x xs ih => intro b h; cases b with
    | nil => cases h
    | cons y ys =>
      simp only [bytesB, Bool.and_eq_true] at h
      rw [ih h.2, UInt8.toNat_inj.1 (Nat.eq_of_beq_eq_true h.1)]
def findE (s : List UInt8) : List (List UInt8 × Int) → Option Int
  | [] => none
  | e :: l => if bytesB s e.1 then some e.2 else findE s l
theorem findE_mem {s : List UInt8} : ∀ {l : List (List UInt8 × Int)} {r : Int}, findE s l = some r → (s, r) ∈ l := by
  intro l
  induction l with
  | nil => intro r h; cases h
  | cons e l ih =>
    intro r h
    simp only [findE] at h
    split at h
    · rename_i hb
      injection h with h
      subst h
      rw [bytesB_eq hb]
      exact List.mem_cons_self
    · exact List.mem_cons_of_mem _ (ih h)
def extP (f : FuncId) (args : List PV) : Option DV :=
  match args with
  | [.str s] => if Nat.beq f 151 then match findE s.data.toList ents with
    | some r => some (.p (.int .i64 r))
    | none => none
    else extF f args
  | _ => extF f args
theorem extP_ok (f : FuncId) (args : List PV) (d : DV) (h : extP f args = some d) : PureCall Tryz.prog f args d := by
  unfold extP at h
  split at h
  · split at h
    · rename_i e
      have := Nat.eq_of_beq_eq_true e
      subst this
      split at h
      · rename_i hr
        injection h with h
        subst h
        exact ents_ok _ (findE_mem hr)
      · cases h
    · exact extF_ok _ _ _ h
  · exact extF_ok _ _ _ h
def tblP : Tbl := [(18, F18), (22, F22), (25, F25), (27, F27), (28, F28), (30, F30), (32, F32), (35, F35), (37, F37), (38, F38), (40, F40), (45, F45), (46, F46), (48, F48), (50, F50), (51, F51), (52, F52), (53, F53), (54, F54), (55, F55), (58, F58), (59, F59), (63, F63), (64, F64), (66, F66), (67, F67), (68, F68), (69, F69), (70, F70), (71, F71), (73, F73), (74, F74), (75, F75), (76, F76), (77, F77), (78, F78), (81, F81), (82, F82), (83, F83), (84, F84), (85, F85), (86, F86), (87, F87), (88, F88), (89, F89), (90, F90), (91, F91), (92, F92), (93, F93), (94, F94), (95, F95), (96, F96), (97, F97), (99, F99), (100, F100), (101, F101), (102, F102), (103, F103), (104, F104), (105, F105), (106, F106), (107, F107), (108, F108), (109, F109), (119, F119), (121, F121), (122, F122), (123, F123), (124, F124), (125, F125), (126, F126), (133, F133), (134, F134), (135, F135), (136, F136), (139, F139), (140, F140), (141, F141), (142, F142), (143, F143), (144, F144), (145, F145), (146, F146), (147, F147), (149, F149), (150, F150), (152, F152), (153, F153), (154, F154), (155, F155), (156, F156), (157, F157), (161, F161), (163, F163), (164, F164), (165, F165), (166, F166), (167, F167), (168, F168), (169, F169), (173, F173), (174, F174), (177, F177), (178, F178), (179, F179), (180, F180), (181, F181), (182, F182), (183, F183), (189, F189), (192, F192), (206, F206), (211, F211), (220, F220)]
theorem tblP_ok : TblOK Tryz.prog tblP := .cons k18 <| .cons k22 <| .cons k25 <| .cons k27 <| .cons k28 <| .cons k30 <| .cons k32 <| .cons k35 <| .cons k37 <| .cons k38 <| .cons k40 <| .cons k45 <| .cons k46 <| .cons k48 <| .cons k50 <| .cons k51 <| .cons k52 <| .cons k53 <| .cons k54 <| .cons k55 <| .cons k58 <| .cons k59 <| .cons k63 <| .cons k64 <| .cons k66 <| .cons k67 <| .cons k68 <| .cons k69 <| .cons k70 <| .cons k71 <| .cons k73 <| .cons k74 <| .cons k75 <| .cons k76 <| .cons k77 <| .cons k78 <| .cons k81 <| .cons k82 <| .cons k83 <| .cons k84 <| .cons k85 <| .cons k86 <| .cons k87 <| .cons k88 <| .cons k89 <| .cons k90 <| .cons k91 <| .cons k92 <| .cons k93 <| .cons k94 <| .cons k95 <| .cons k96 <| .cons k97 <| .cons k99 <| .cons k100 <| .cons k101 <| .cons k102 <| .cons k103 <| .cons k104 <| .cons k105 <| .cons k106 <| .cons k107 <| .cons k108 <| .cons k109 <| .cons k119 <| .cons k121 <| .cons k122 <| .cons k123 <| .cons k124 <| .cons k125 <| .cons k126 <| .cons k133 <| .cons k134 <| .cons k135 <| .cons k136 <| .cons k139 <| .cons k140 <| .cons k141 <| .cons k142 <| .cons k143 <| .cons k144 <| .cons k145 <| .cons k146 <| .cons k147 <| .cons k149 <| .cons k150 <| .cons k152 <| .cons k153 <| .cons k154 <| .cons k155 <| .cons k156 <| .cons k157 <| .cons k161 <| .cons k163 <| .cons k164 <| .cons k165 <| .cons k166 <| .cons k167 <| .cons k168 <| .cons k169 <| .cons k173 <| .cons k174 <| .cons k177 <| .cons k178 <| .cons k179 <| .cons k180 <| .cons k181 <| .cons k182 <| .cons k183 <| .cons k189 <| .cons k192 <| .cons k206 <| .cons k211 <| .cons k220 <| .nil
def envP (n : Nat) : Env := runE extP tblP n
theorem envP_ok (n : Nat) : (envP n).OK Tryz.prog := runE_ok extP_ok tblP_ok
end Go.Proofs.YtkjghcbnmipgfaaGreatDoor.Vc
