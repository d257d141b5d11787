/- Part of a proof over a Go program: Fct. No condition. -/
import Derived.Test.YtnjphclbpgajpaaGreatDoorQ15
import Derived.KernelRfl
set_option linter.unnecessarySimpa false
set_option linter.unusedSectionVars false
set_option linter.unusedSimpArgs false
set_option linter.unusedVariables false
set_option maxRecDepth 1000000
namespace Go.Proofs.YtnjphclbpgajpaaGreatDoor.Vc
open Go.RowKit
theorem parse0 : PureCall Tryz.prog 262 [.str ⟨⟨[48]⟩⟩] (.p (.int .i64 0)) := (envB_ok 100).call 262 [.str ⟨⟨[48]⟩⟩] (.p (.int .i64 0)) (by kernel_rfl)
theorem parse1 : PureCall Tryz.prog 262 [.str ⟨⟨[49]⟩⟩] (.p (.int .i64 1)) := (envB_ok 100).call 262 [.str ⟨⟨[49]⟩⟩] (.p (.int .i64 1)) (by kernel_rfl)
theorem parse2 : PureCall Tryz.prog 262 [.str ⟨⟨[50]⟩⟩] (.p (.int .i64 2)) := (envB_ok 100).call 262 [.str ⟨⟨[50]⟩⟩] (.p (.int .i64 2)) (by kernel_rfl)
theorem parse3 : PureCall Tryz.prog 262 [.str ⟨⟨[51]⟩⟩] (.p (.int .i64 3)) := (envB_ok 100).call 262 [.str ⟨⟨[51]⟩⟩] (.p (.int .i64 3)) (by kernel_rfl)
theorem parse8 : PureCall Tryz.prog 262 [.str ⟨⟨[56]⟩⟩] (.p (.int .i64 8)) := (envB_ok 100).call 262 [.str ⟨⟨[56]⟩⟩] (.p (.int .i64 8)) (by kernel_rfl)
theorem parse10 : PureCall Tryz.prog 262 [.str ⟨⟨[49, 48]⟩⟩] (.p (.int .i64 10)) := (envB_ok 100).call 262 [.str ⟨⟨[49, 48]⟩⟩] (.p (.int .i64 10)) (by kernel_rfl)
def ents : List (List UInt8 × Int) := [([48], 0), ([49], 1), ([50], 2), ([51], 3), ([56], 8), ([49, 48], 10)]
theorem ents_ok : ∀ e, e ∈ ents → PureCall Tryz.prog 262 [.str ⟨⟨e.1⟩⟩] (.p (.int .i64 e.2)) := by
 intro e he
 simp only [ents, List.mem_cons, List.not_mem_nil, or_false] at he
 rcases he with rfl | rfl | rfl | rfl | rfl | rfl
 ·exact parse0
 ·exact parse1
 ·exact parse2
 ·exact parse3
 ·exact parse8
 ·exact parse10
def bytesB : List UInt8 → List UInt8 → Bool
 | [], [] => true
 | a :: l, b :: m => Nat.beq a.toNat b.toNat && bytesB l m
 | _, _ => false
theorem bytesB_eq : ∀ {a b : List UInt8}, bytesB a b = true → a = b := by
 intro a
 induction a with
 | nil => intro b h; cases b with
  | nil => rfl
  | cons _ _ => cases h
 | cons x xs ih => intro b h; cases b with
  | nil => cases h
  | cons y ys =>
   simp only [bytesB, Bool.and_eq_true] at h
   rw [ih h.2, UInt8.toNat_inj.1 (Nat.eq_of_beq_eq_true h.1)]
def findFx (s : List UInt8) : List (List UInt8 × Int) → Option Int
 | [] => none
 | e :: l => if bytesB s e.1 then some e.2 else findFx s l
theorem findE_mem {s : List UInt8} : ∀ {l : List (List UInt8 × Int)} {r : Int}, findFx s l = some r → (s, r) ∈ l := by
 intro l
 induction l with
 | nil => intro r h; cases h
 | cons e l ih =>
  intro r h
  simp only [findFx] at h
  split at h
  ·rename_i hb
   injection h with h
   subst h
   rw [bytesB_eq hb]
   exact List.mem_cons_self
  ·exact List.mem_cons_of_mem _ (ih h)
def extP (f : FuncId) (args : List PV) : Option DV :=
 match args with
 | [.str s] => if Nat.beq f 262 then match findFx s.data.toList ents with
  | some r => some (.p (.int .i64 r))
  | none => none
  else extF f args
 | _ => extF f args
theorem extP_ok (f : FuncId) (args : List PV) (d : DV) (h : extP f args = some d) : PureCall Tryz.prog f args d := by
 unfold extP at h
 split at h
 ·split at h
  ·rename_i e
   have := Nat.eq_of_beq_eq_true e
   subst this
   split at h
   ·rename_i hr
    injection h with h
    subst h
    exact ents_ok _ (findE_mem hr)
   ·cases h
  ·exact extF_ok _ _ _ h
 ·exact extF_ok _ _ _ h
def tblP : Tbl := [(155, F155), (52, F52), (86, F86), (185, F185), (50, F50), (82, F82), (51, F51), (186, F186), (187, F187), (26, F26), (184, F184), (138, F138), (139, F139), (137, F137), (80, F80), (81, F81), (218, F218), (219, F219), (83, F83), (84, F84), (129, F129), (85, F85), (220, F220), (217, F217), (174, F174), (175, F175), (126, F126), (127, F127), (128, F128), (242, F242), (131, F131), (132, F132), (67, F67), (133, F133), (134, F134), (68, F68), (154, F154), (240, F240), (188, F188), (158, F158), (149, F149), (241, F241), (209, F209), (210, F210), (211, F211), (168, F168), (169, F169), (170, F170), (171, F171), (97, F97), (172, F172), (173, F173), (98, F98), (183, F183), (177, F177), (249, F249), (180, F180), (196, F196), (232, F232), (233, F233), (234, F234), (235, F235), (236, F236), (198, F198), (208, F208), (216, F216), (215, F215), (213, F213), (250, F250), (214, F214), (247, F247), (239, F239), (237, F237), (238, F238), (251, F251), (248, F248), (252, F252), (253, F253), (254, F254), (255, F255), (121, F121), (256, F256), (257, F257), (258, F258), (260, F260), (261, F261), (263, F263), (166, F166), (264, F264), (265, F265), (266, F266), (267, F267), (271, F271), (273, F273), (193, F193), (194, F194), (195, F195), (197, F197), (274, F274), (275, F275), (279, F279), (280, F280), (283, F283), (221, F221), (222, F222), (223, F223), (224, F224), (225, F225), (284, F284), (290, F290), (293, F293), (307, F307), (244, F244), (319, F319)]
theorem tblP_ok : TblOK Tryz.prog tblP := .cons k155 <| .cons k52 <| .cons k86 <| .cons k185 <| .cons k50 <| .cons k82 <| .cons k51 <| .cons k186 <| .cons k187 <| .cons k26 <| .cons k184 <| .cons k138 <| .cons k139 <| .cons k137 <| .cons k80 <| .cons k81 <| .cons k218 <| .cons k219 <| .cons k83 <| .cons k84 <| .cons k129 <| .cons k85 <| .cons k220 <| .cons k217 <| .cons k174 <| .cons k175 <| .cons k126 <| .cons k127 <| .cons k128 <| .cons k242 <| .cons k131 <| .cons k132 <| .cons k67 <| .cons k133 <| .cons k134 <| .cons k68 <| .cons k154 <| .cons k240 <| .cons k188 <| .cons k158 <| .cons k149 <| .cons k241 <| .cons k209 <| .cons k210 <| .cons k211 <| .cons k168 <| .cons k169 <| .cons k170 <| .cons k171 <| .cons k97 <| .cons k172 <| .cons k173 <| .cons k98 <| .cons k183 <| .cons k177 <| .cons k249 <| .cons k180 <| .cons k196 <| .cons k232 <| .cons k233 <| .cons k234 <| .cons k235 <| .cons k236 <| .cons k198 <| .cons k208 <| .cons k216 <| .cons k215 <| .cons k213 <| .cons k250 <| .cons k214 <| .cons k247 <| .cons k239 <| .cons k237 <| .cons k238 <| .cons k251 <| .cons k248 <| .cons k252 <| .cons k253 <| .cons k254 <| .cons k255 <| .cons k121 <| .cons k256 <| .cons k257 <| .cons k258 <| .cons k260 <| .cons k261 <| .cons k263 <| .cons k166 <| .cons k264 <| .cons k265 <| .cons k266 <| .cons k267 <| .cons k271 <| .cons k273 <| .cons k193 <| .cons k194 <| .cons k195 <| .cons k197 <| .cons k274 <| .cons k275 <| .cons k279 <| .cons k280 <| .cons k283 <| .cons k221 <| .cons k222 <| .cons k223 <| .cons k224 <| .cons k225 <| .cons k284 <| .cons k290 <| .cons k293 <| .cons k307 <| .cons k244 <| .cons k319 <| .nil
def envP (n : Nat) : Env := runE extP noO tblP n
theorem envP_ok (n : Nat) : (envP n).OK Tryz.prog := runE_ok extP_ok noO_ok tblP_ok
end Go.Proofs.YtnjphclbpgajpaaGreatDoor.Vc
