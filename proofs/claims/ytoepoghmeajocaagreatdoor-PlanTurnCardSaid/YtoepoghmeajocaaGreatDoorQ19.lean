/- Part of a proof over a Go program: Fct. No condition. -/
import Derived.Test.YtoepoghmeajocaaGreatDoorQ18
import Derived.KernelRfl
set_option linter.unnecessarySimpa false
set_option linter.unusedSectionVars false
set_option linter.unusedSimpArgs false
set_option linter.unusedVariables false
set_option maxRecDepth 1000000
namespace Go.Proofs.YtoepoghmeajocaaGreatDoor.Vc
open Go.RowKit
theorem parse0 : PureCall Tryz.prog 186 [.str ⟨⟨[48]⟩⟩] (.p (.int .i64 0)) := (envB_ok 100).call 186 [.str ⟨⟨[48]⟩⟩] (.p (.int .i64 0)) (by kernel_rfl)
theorem parse1 : PureCall Tryz.prog 186 [.str ⟨⟨[49]⟩⟩] (.p (.int .i64 1)) := (envB_ok 100).call 186 [.str ⟨⟨[49]⟩⟩] (.p (.int .i64 1)) (by kernel_rfl)
theorem parse2 : PureCall Tryz.prog 186 [.str ⟨⟨[50]⟩⟩] (.p (.int .i64 2)) := (envB_ok 100).call 186 [.str ⟨⟨[50]⟩⟩] (.p (.int .i64 2)) (by kernel_rfl)
theorem parse3 : PureCall Tryz.prog 186 [.str ⟨⟨[51]⟩⟩] (.p (.int .i64 3)) := (envB_ok 100).call 186 [.str ⟨⟨[51]⟩⟩] (.p (.int .i64 3)) (by kernel_rfl)
theorem parse8 : PureCall Tryz.prog 186 [.str ⟨⟨[56]⟩⟩] (.p (.int .i64 8)) := (envB_ok 100).call 186 [.str ⟨⟨[56]⟩⟩] (.p (.int .i64 8)) (by kernel_rfl)
theorem parse10 : PureCall Tryz.prog 186 [.str ⟨⟨[49, 48]⟩⟩] (.p (.int .i64 10)) := (envB_ok 100).call 186 [.str ⟨⟨[49, 48]⟩⟩] (.p (.int .i64 10)) (by kernel_rfl)
def ents : List (List UInt8 × Int) := [([48], 0), ([49], 1), ([50], 2), ([51], 3), ([56], 8), ([49, 48], 10)]
theorem ents_ok : ∀ e, e ∈ ents → PureCall Tryz.prog 186 [.str ⟨⟨e.1⟩⟩] (.p (.int .i64 e.2)) := by
 intro e he
 simp only [ents, List.mem_cons, List.not_mem_nil, or_false] at he
 rcases he with rfl | rfl | rfl | rfl | rfl | rfl
 ·exact parse0
 ·exact parse1
 ·exact parse2
 ·exact parse3
 ·exact parse8
 ·exact parse10
def bytesB : List UInt8 → List UInt8 → Bool
 | [], [] => true
 | a :: l, b :: m => Nat.beq a.toNat b.toNat && bytesB l m
 | _, _ => false
theorem bytesB_eq : ∀ {a b : List UInt8}, bytesB a b = true → a = b := by
 intro a
 induction a with
 | nil => intro b h; cases b with
  | nil => rfl
  | cons _ _ => cases h
 | cons x xs ih => intro b h; cases b with
  | nil => cases h
  | cons y ys =>
   simp only [bytesB, Bool.and_eq_true] at h
   rw [ih h.2, UInt8.toNat_inj.1 (Nat.eq_of_beq_eq_true h.1)]
def findFx (s : List UInt8) : List (List UInt8 × Int) → Option Int
 | [] => none
 | e :: l => if bytesB s e.1 then some e.2 else findFx s l
theorem findE_mem {s : List UInt8} : ∀ {l : List (List UInt8 × Int)} {r : Int}, findFx s l = some r → (s, r) ∈ l := by
 intro l
 induction l with
 | nil => intro r h; cases h
 | cons e l ih =>
  intro r h
  simp only [findFx] at h
  split at h
  ·rename_i hb
   injection h with h
   subst h
   rw [bytesB_eq hb]
   exact List.mem_cons_self
  ·exact List.mem_cons_of_mem _ (ih h)
def extP (f : FuncId) (args : List PV) : Option DV :=
 match args with
 | [.str s] => if Nat.beq f 186 then match findFx s.data.toList ents with
  | some r => some (.p (.int .i64 r))
  | none => none
  else extF f args
 | _ => extF f args
theorem extP_ok (f : FuncId) (args : List PV) (d : DV) (h : extP f args = some d) : PureCall Tryz.prog f args d := by
 unfold extP at h
 split at h
 ·split at h
  ·rename_i e
   have := Nat.eq_of_beq_eq_true e
   subst this
   split at h
   ·rename_i hr
    injection h with h
    subst h
    exact ents_ok _ (findE_mem hr)
   ·cases h
  ·exact extF_ok _ _ _ h
 ·exact extF_ok _ _ _ h
def tblP : Tbl := [(15, F15), (21, F21), (45, F45), (22, F22), (19, F19), (43, F43), (20, F20), (34, F34), (24, F24), (44, F44), (42, F42), (90, F90), (91, F91), (92, F92), (51, F51), (52, F52), (56, F56), (57, F57), (53, F53), (54, F54), (89, F89), (55, F55), (59, F59), (88, F88), (73, F73), (74, F74), (95, F95), (96, F96), (97, F97), (106, F106), (99, F99), (100, F100), (101, F101), (102, F102), (103, F103), (104, F104), (75, F75), (126, F126), (117, F117), (76, F76), (66, F66), (127, F127), (113, F113), (114, F114), (115, F115), (129, F129), (130, F130), (131, F131), (132, F132), (133, F133), (134, F134), (135, F135), (136, F136), (116, F116), (107, F107), (147, F147), (110, F110), (143, F143), (140, F140), (141, F141), (142, F142), (144, F144), (145, F145), (149, F149), (159, F159), (146, F146), (139, F139), (137, F137), (164, F164), (138, F138), (163, F163), (162, F162), (160, F160), (161, F161), (173, F173), (172, F172), (176, F176), (177, F177), (178, F178), (179, F179), (180, F180), (40, F40), (181, F181), (182, F182), (184, F184), (185, F185), (187, F187), (188, F188), (87, F87), (189, F189), (190, F190), (191, F191), (195, F195), (197, F197), (198, F198), (199, F199), (200, F200), (201, F201), (202, F202), (203, F203), (207, F207), (208, F208), (211, F211), (212, F212), (213, F213), (214, F214), (215, F215), (216, F216), (217, F217), (223, F223), (226, F226), (240, F240), (245, F245), (254, F254)]
theorem tblP_ok : TblOK Tryz.prog tblP := .cons k15 <| .cons k21 <| .cons k45 <| .cons k22 <| .cons k19 <| .cons k43 <| .cons k20 <| .cons k34 <| .cons k24 <| .cons k44 <| .cons k42 <| .cons k90 <| .cons k91 <| .cons k92 <| .cons k51 <| .cons k52 <| .cons k56 <| .cons k57 <| .cons k53 <| .cons k54 <| .cons k89 <| .cons k55 <| .cons k59 <| .cons k88 <| .cons k73 <| .cons k74 <| .cons k95 <| .cons k96 <| .cons k97 <| .cons k106 <| .cons k99 <| .cons k100 <| .cons k101 <| .cons k102 <| .cons k103 <| .cons k104 <| .cons k75 <| .cons k126 <| .cons k117 <| .cons k76 <| .cons k66 <| .cons k127 <| .cons k113 <| .cons k114 <| .cons k115 <| .cons k129 <| .cons k130 <| .cons k131 <| .cons k132 <| .cons k133 <| .cons k134 <| .cons k135 <| .cons k136 <| .cons k116 <| .cons k107 <| .cons k147 <| .cons k110 <| .cons k143 <| .cons k140 <| .cons k141 <| .cons k142 <| .cons k144 <| .cons k145 <| .cons k149 <| .cons k159 <| .cons k146 <| .cons k139 <| .cons k137 <| .cons k164 <| .cons k138 <| .cons k163 <| .cons k162 <| .cons k160 <| .cons k161 <| .cons k173 <| .cons k172 <| .cons k176 <| .cons k177 <| .cons k178 <| .cons k179 <| .cons k180 <| .cons k40 <| .cons k181 <| .cons k182 <| .cons k184 <| .cons k185 <| .cons k187 <| .cons k188 <| .cons k87 <| .cons k189 <| .cons k190 <| .cons k191 <| .cons k195 <| .cons k197 <| .cons k198 <| .cons k199 <| .cons k200 <| .cons k201 <| .cons k202 <| .cons k203 <| .cons k207 <| .cons k208 <| .cons k211 <| .cons k212 <| .cons k213 <| .cons k214 <| .cons k215 <| .cons k216 <| .cons k217 <| .cons k223 <| .cons k226 <| .cons k240 <| .cons k245 <| .cons k254 <| .nil
def envP (n : Nat) : Env := runE extP noO tblP n
theorem envP_ok (n : Nat) : (envP n).OK Tryz.prog := runE_ok extP_ok noO_ok tblP_ok
end Go.Proofs.YtoepoghmeajocaaGreatDoor.Vc
