/- Part of a proof over a Go program: Fct. No condition. -/
import Derived.Test.YtnjphclbpgajpaaGreatDoorW12
import Derived.KernelRfl
set_option linter.unnecessarySimpa false
set_option linter.unusedSectionVars false
set_option linter.unusedSimpArgs false
set_option linter.unusedVariables false
set_option maxRecDepth 1000000
namespace Go.Proofs.YtnjphclbpgajpaaGreatDoor.Vc
open Go.RowKit
theorem KW:aO Tryz.prog 262 [.str ⟨⟨[48]⟩⟩] (.p (.int .i64 0)):=(jS 100).call 262 [.str ⟨⟨[48]⟩⟩] (.p (.int .i64 0)) (by kernel_rfl)
theorem OX:aO Tryz.prog 262 [.str ⟨⟨[49]⟩⟩] (.p (.int .i64 1)):=(jS 100).call 262 [.str ⟨⟨[49]⟩⟩] (.p (.int .i64 1)) (by kernel_rfl)
theorem NC:aO Tryz.prog 262 [.str ⟨⟨[50]⟩⟩] (.p (.int .i64 2)):=(jS 100).call 262 [.str ⟨⟨[50]⟩⟩] (.p (.int .i64 2)) (by kernel_rfl)
theorem LW:aO Tryz.prog 262 [.str ⟨⟨[51]⟩⟩] (.p (.int .i64 3)):=(jS 100).call 262 [.str ⟨⟨[51]⟩⟩] (.p (.int .i64 3)) (by kernel_rfl)
theorem N6:aO Tryz.prog 262 [.str ⟨⟨[56]⟩⟩] (.p (.int .i64 8)):=(jS 100).call 262 [.str ⟨⟨[56]⟩⟩] (.p (.int .i64 8)) (by kernel_rfl)
theorem ID:aO Tryz.prog 262 [.str ⟨⟨[49,48]⟩⟩] (.p (.int .i64 10)):=(jS 100).call 262 [.str ⟨⟨[49,48]⟩⟩] (.p (.int .i64 10)) (by kernel_rfl)
def ents:List (List UInt8×Int):=[([48],0),([49],1),([50],2),([51],3),([56],8),([49,48],10)]
theorem HZ:∀e,e∈ents->aO Tryz.prog 262 [.str ⟨⟨e.1⟩⟩] (.p (.int .i64 e.2)):=by
 intro e he;simp only[ents,List.mem_cons,List.not_mem_nil,or_false] at he;rcases he with rfl|rfl|rfl|rfl|rfl|rfl
 ·exact KW
 ·exact OX
 ·exact NC
 ·exact LW
 ·exact N6
 ·exact ID
def uN:List UInt8->List UInt8->Bool
 |[],[]=>true
 |a ::l,b ::m=>Nat.beq a.toNat b.toNat&&uN l m
 |_,_=>false
theorem D5:∀{a b:List UInt8},uN a b=true->a=b:=by
 intro a
 induction a with
 |nil=>intro b h;cases b with
  |nil=>rfl
  |cons _ _=>cases h
 |cons x xs ih=>intro b h;cases b with
  |nil=>cases h
  |cons y ys=>
   simp only[uN,b6] at h;rw[ih h.2,UInt8.toNat_inj.1 (Nat.eq_of_beq_eq_true h.1)]
def vK(s:List UInt8):List (List UInt8×Int)->Option Int
 |[]=>none
 |e ::l=>if uN s e.1 then some e.2 else vK s l
theorem CG{s:List UInt8}:∀{l:List (List UInt8×Int)} {r:Int},vK s l=some r->(s,r)∈l:=by
 intro l
 induction l with
 |nil=>intro r h;cases h
 |cons e l ih=>
  intro r h;simp only[vK] at h
  split at h
  ·rename_i hb
   injection h with h
   subst h;rw[D5 hb];exact List.mem_cons_self
  ·exact List.mem_cons_of_mem _ (ih h)
def GK(f:FuncId)(args:List PV):Option DV :=
 match args with
 |[.str s]=>if Nat.beq f 262 then match vK s.data.toList ents with
  |some r=>some (.p (.int .i64 r))
  |none=>none
  else DD f args
 |_=>DD f args
theorem uD(f:FuncId)(args:List PV)(d:DV)(h:GK f args=some d):aO Tryz.prog f args d:=by
 unfold GK at h
 split at h
 ·split at h
  ·rename_i e
   have:=Nat.eq_of_beq_eq_true e;subst this
   split at h
   ·rename_i hr
    injection h with h
    subst h;exact HZ _ (CG hr)
   ·cases h
  ·exact uS _ _ _ h
 ·exact uS _ _ _ h
def I5:Tbl:=[(155,KD),(52,W5),(86,XN),(185,LV),(50,VL),(82,WU),(51,WQ),(186,MI),(187,LR),(26,UV),(184,L6),(138,LN),(139,ON),(137,KQ),(80,XC),(81,VZ),(218,NE),(219,OD),(83,XI),(84,VC),(129,NX),(85,XK),(220,KV),(217,O0),(174,LM),(175,OL),(126,KS),(127,L3),(128,NF),(242,M1),(131,MS),(132,PK),(67,W9),(133,LD),(134,LI),(68,VA),(154,NT),(240,KK),(188,L8),(158,OB),(149,LY),(241,L9),(209,MF),(210,KU),(211,NI),(168,PJ),(169,MH),(170,MV),(171,MM),(97,X4),(172,LC),(173,ML),(98,VR),(183,PH),(177,MC),(249,KJ),(180,MD),(196,O1),(232,P2),(233,OP),(234,MO),(235,N0),(236,NQ),(198,MX),(208,MY),(216,KP),(215,MU),(213,OA),(250,O4),(214,O6),(247,P6),(239,OR),(237,NO),(238,ND),(251,NV),(248,LJ),(252,PB),(253,O5),(254,O7),(255,OM),(121,LB),(256,NP),(257,NN),(258,MB),(260,P0),(261,MQ),(263,OC),(166,ME),(264,N7),(265,PC),(266,NR),(267,OF),(271,MG),(273,NZ),(193,NK),(194,KH),(195,L5),(197,PD),(274,NJ),(275,KT),(279,NH),(280,MW),(283,LP),(221,LZ),(222,P7),(223,PI),(224,M8),(225,KZ),(284,N5),(290,P1),(293,LH),(307,LX),(244,PG),(319,LT)]
theorem tblP_ok:TblOK Tryz.prog I5:=.cons R0 <| .cons k52 <| .cons YS <| .cons QJ <| .cons YU <| .cons Z9 <| .cons YV <| .cons RY <| .cons QH <| .cons XS <| .cons SJ <| .cons S5 <| .cons Q4 <| .cons JL <| .cons ZX <| .cons Y0 <| .cons PX <| .cons QQ <| .cons ZS <| .cons YN <| .cons LO <| .cons YF <| .cons RB <| .cons UP <| .cons E6 <| .cons I8 <| .cons PE <| .cons SH <| .cons QM <| .cons SX <| .cons SK <| .cons QW <| .cons ZT <| .cons T1 <| .cons TJ <| .cons YQ <| .cons SI <| .cons U0 <| .cons RK <| .cons QI <| .cons Q5 <| .cons TU <| .cons M4 <| .cons MK <| .cons NG <| .cons QF <| .cons KY <| .cons I7 <| .cons T6 <| .cons ZF <| .cons U1 <| .cons PS <| .cons Y7 <| .cons U2 <| .cons UD <| .cons TN <| .cons QP <| .cons O3 <| .cons LS <| .cons NM <| .cons M7 <| .cons KM <| .cons JN <| .cons S2 <| .cons SB <| .cons Q1 <| .cons TK <| .cons SL <| .cons RL <| .cons Q6 <| .cons OO <| .cons T7 <| .cons TQ <| .cons TS <| .cons Q3 <| .cons R6 <| .cons RH <| .cons QE <| .cons TP <| .cons R5 <| .cons UN <| .cons UF <| .cons SE <| .cons RX <| .cons TZ <| .cons TH <| .cons U4 <| .cons UE <| .cons S0 <| .cons QO <| .cons RJ <| .cons PR <| .cons SZ <| .cons QV <| .cons SA <| .cons QZ <| .cons TG <| .cons Q2 <| .cons R7 <| .cons R9 <| .cons QU <| .cons RD <| .cons QG <| .cons Q8 <| .cons RW <| .cons TB <| .cons SP <| .cons PT <| .cons U5 <| .cons T5 <| .cons RO <| .cons TM <| .cons RA <| .cons UJ <| .nil
def VN(n:Nat):Env:=oK GK U8 I5 n
theorem JH(n:Nat):(VN n).OK Tryz.prog:=lB uD uQ tblP_ok
end Go.Proofs.YtnjphclbpgajpaaGreatDoor.Vc
