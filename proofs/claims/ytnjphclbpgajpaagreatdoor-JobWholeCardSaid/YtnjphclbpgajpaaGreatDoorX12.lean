/- Part of a proof over a Go program: Fct. No condition. -/
import Derived.Test.YtnjphclbpgajpaaGreatDoorX11
import Derived.KernelRfl
set_option linter.unnecessarySimpa false
set_option linter.unusedSectionVars false
set_option linter.unusedSimpArgs false
set_option linter.unusedVariables false
set_option maxRecDepth 1000000
namespace Go.Proofs.YtnjphclbpgajpaaGreatDoor.Vc
open Go.RowKit
theorem SF:aB Tryz.prog 262 [.str ⟨⟨[48]⟩⟩] (.p (.int .i64 0)):=(mF 100).call 262 [.str ⟨⟨[48]⟩⟩] (.p (.int .i64 0)) (by kernel_rfl)
theorem P5:aB Tryz.prog 262 [.str ⟨⟨[49]⟩⟩] (.p (.int .i64 1)):=(mF 100).call 262 [.str ⟨⟨[49]⟩⟩] (.p (.int .i64 1)) (by kernel_rfl)
theorem S5:aB Tryz.prog 262 [.str ⟨⟨[50]⟩⟩] (.p (.int .i64 2)):=(mF 100).call 262 [.str ⟨⟨[50]⟩⟩] (.p (.int .i64 2)) (by kernel_rfl)
theorem QK:aB Tryz.prog 262 [.str ⟨⟨[51]⟩⟩] (.p (.int .i64 3)):=(mF 100).call 262 [.str ⟨⟨[51]⟩⟩] (.p (.int .i64 3)) (by kernel_rfl)
theorem OC:aB Tryz.prog 262 [.str ⟨⟨[56]⟩⟩] (.p (.int .i64 8)):=(mF 100).call 262 [.str ⟨⟨[56]⟩⟩] (.p (.int .i64 8)) (by kernel_rfl)
theorem M4:aB Tryz.prog 262 [.str ⟨⟨[49,48]⟩⟩] (.p (.int .i64 10)):=(mF 100).call 262 [.str ⟨⟨[49,48]⟩⟩] (.p (.int .i64 10)) (by kernel_rfl)
def ents:List (List UInt8×Int):=[([48],0),([49],1),([50],2),([51],3),([56],8),([49,48],10)]
theorem ML:∀e,e∈ents->aB Tryz.prog 262 [.str ⟨⟨e.1⟩⟩] (.p (.int .i64 e.2)):=by
 intro e he;simp only[ents,List.mem_cons,List.not_mem_nil,or_false] at he;rcases he with rfl|rfl|rfl|rfl|rfl|rfl
 ·exact SF
 ·exact P5
 ·exact S5
 ·exact QK
 ·exact OC
 ·exact M4
def A9:List UInt8->List UInt8->Bool
 |[],[]=>true
 |a ::l,b ::m=>Nat.beq a.toNat b.toNat&&A9 l m
 |_,_=>false
theorem H8:∀{a b:List UInt8},A9 a b=true->a=b:=by
 intro a
 induction a with
 |nil=>intro b h;cases b with
  |nil=>rfl
  |cons _ _=>cases h
 |cons x xs ih=>intro b h;cases b with
  |nil=>cases h
  |cons y ys=>
   simp only[A9,aY] at h;rw[ih h.2,UInt8.toNat_inj.1 (Nat.eq_of_beq_eq_true h.1)]
def yP(s:List UInt8):List (List UInt8×Int)->Option Int
 |[]=>none
 |e ::l=>if A9 s e.1 then some e.2 else yP s l
theorem H4{s:List UInt8}:∀{l:List (List UInt8×Int)} {r:Int},yP s l=some r->(s,r)∈l:=by
 intro l
 induction l with
 |nil=>intro r h;cases h
 |cons e l ih=>
  intro r h;simp only[yP] at h
  split at h
  ·rename_i hb
   injection h with h
   subst h;rw[H8 hb];exact List.mem_cons_self
  ·exact List.mem_cons_of_mem _ (ih h)
def JN(f:FuncId)(args:List PV):Option DV :=
 match args with
 |[.str s]=>if Nat.beq f 262 then match yP s.data.toList ents with
  |some r=>some (.p (.int .i64 r))
  |none=>none
  else HY f args
 |_=>HY f args
theorem z7(f:FuncId)(args:List PV)(d:DV)(h:JN f args=some d):aB Tryz.prog f args d:=by
 unfold JN at h
 split at h
 ·split at h
  ·rename_i e
   have:=Nat.eq_of_beq_eq_true e;subst this
   split at h
   ·rename_i hr
    injection h with h
    subst h;exact ML _ (H4 hr)
   ·cases h
  ·exact xO _ _ _ h
 ·exact xO _ _ _ h
def MY:Tbl:=[(155,SK),(52,F52),(86,ZG),(185,S6),(50,F50),(82,F82),(51,F51),(186,R3),(187,Q3),(26,YH),(184,P9),(138,QQ),(139,SX),(137,OB),(80,F80),(81,F81),(218,RP),(219,SP),(83,F83),(84,ZY),(129,QV),(85,ZM),(220,RL),(217,PP),(174,QD),(175,T5),(126,QN),(127,RR),(128,PZ),(242,R0),(131,RF),(132,T6),(67,F67),(133,S8),(134,SA),(68,F68),(154,OD),(240,OY),(188,SS),(158,PD),(149,QW),(241,QC),(209,PS),(210,R7),(211,RO),(168,OH),(169,Q2),(170,OS),(171,RH),(97,F97),(172,QG),(173,RU),(98,F98),(183,ST),(177,OX),(249,R2),(180,O8),(196,QY),(232,SU),(233,RX),(234,P4),(235,RE),(236,Q4),(198,OG),(208,OR),(216,R6),(215,PI),(213,QJ),(250,PJ),(214,OQ),(247,SM),(239,S0),(237,PA),(238,R4),(251,Q7),(248,OA),(252,PO),(253,SN),(254,R9),(255,RC),(121,QP),(256,PX),(257,Q8),(258,OF),(260,SH),(261,SY),(263,RJ),(166,SV),(264,OJ),(265,PL),(266,OM),(267,O9),(271,PC),(273,QU),(193,PB),(194,RA),(195,RW),(197,S3),(274,SC),(275,SD),(279,Q9),(280,P8),(283,PR),(221,QR),(222,OI),(223,RM),(224,QL),(225,Q6),(284,RI),(290,PN),(293,RN),(307,RS),(244,SO),(319,QB)]
theorem tblP_ok:TblOK Tryz.prog MY:=.cons V7 <| .cons k52 <| .cons k86 <| .cons WY <| .cons k50 <| .cons k82 <| .cons k51 <| .cons XP <| .cons UR <| .cons ZB <| .cons V9 <| .cons VE <| .cons WR <| .cons LT <| .cons k80 <| .cons k81 <| .cons TL <| .cons XW <| .cons k83 <| .cons k84 <| .cons Q0 <| .cons k85 <| .cons U5 <| .cons VW <| .cons J7 <| .cons LA <| .cons S2 <| .cons VT <| .cons VF <| .cons UP <| .cons YE <| .cons TT <| .cons k67 <| .cons XN <| .cons X4 <| .cons k68 <| .cons U2 <| .cons U6 <| .cons XX <| .cons XH <| .cons XB <| .cons U3 <| .cons T7 <| .cons RZ <| .cons OZ <| .cons XG <| .cons RY <| .cons LJ <| .cons X8 <| .cons k97 <| .cons XD <| .cons UZ <| .cons k98 <| .cons V0 <| .cons W5 <| .cons VS <| .cons XF <| .cons P0 <| .cons SE <| .cons QE <| .cons QT <| .cons PW <| .cons LV <| .cons UJ <| .cons XL <| .cons WM <| .cons Y2 <| .cons X9 <| .cons WV <| .cons UU <| .cons PT <| .cons UB <| .cons XO <| .cons VR <| .cons WJ <| .cons XJ <| .cons VJ <| .cons XQ <| .cons UE <| .cons US <| .cons V8 <| .cons TZ <| .cons YD <| .cons V4 <| .cons WS <| .cons VL <| .cons XS <| .cons TY <| .cons Y7 <| .cons VV <| .cons U9 <| .cons TS <| .cons V3 <| .cons VO <| .cons TJ <| .cons UC <| .cons YC <| .cons W4 <| .cons Y5 <| .cons YF <| .cons W0 <| .cons UI <| .cons Y3 <| .cons X3 <| .cons WZ <| .cons UM <| .cons WN <| .cons XY <| .cons UV <| .cons XC <| .cons UG <| .cons VU <| .cons WF <| .cons W3 <| .nil
def a1Q(n:Nat):Env:=rM JN TU MY n
theorem NH(n:Nat):(a1Q n).OK Tryz.prog:=p9 z7 yW tblP_ok
end Go.Proofs.YtnjphclbpgajpaaGreatDoor.Vc
