/- Part of a proof over a Go program: Fct. No condition. -/
import Derived.Test.YtnjphclbpgajpaaGreatDoorM12
import Derived.KernelRfl
set_option linter.unnecessarySimpa false
set_option linter.unusedSectionVars false
set_option linter.unusedSimpArgs false
set_option linter.unusedVariables false
set_option maxRecDepth 1000000
namespace Go.Proofs.YtnjphclbpgajpaaGreatDoor.Vc
open Go.RowKit
theorem c1R:a0A Tryz.prog 262 [.str ⟨⟨[48]⟩⟩] (.p (.int .i64 0)):=(a4n 100).call 262 [.str ⟨⟨[48]⟩⟩] (.p (.int .i64 0)) (by kernel_rfl)
theorem c1K:a0A Tryz.prog 262 [.str ⟨⟨[49]⟩⟩] (.p (.int .i64 1)):=(a4n 100).call 262 [.str ⟨⟨[49]⟩⟩] (.p (.int .i64 1)) (by kernel_rfl)
theorem c0i:a0A Tryz.prog 262 [.str ⟨⟨[50]⟩⟩] (.p (.int .i64 2)):=(a4n 100).call 262 [.str ⟨⟨[50]⟩⟩] (.p (.int .i64 2)) (by kernel_rfl)
theorem c1k:a0A Tryz.prog 262 [.str ⟨⟨[51]⟩⟩] (.p (.int .i64 3)):=(a4n 100).call 262 [.str ⟨⟨[51]⟩⟩] (.p (.int .i64 3)) (by kernel_rfl)
theorem c0y:a0A Tryz.prog 262 [.str ⟨⟨[56]⟩⟩] (.p (.int .i64 8)):=(a4n 100).call 262 [.str ⟨⟨[56]⟩⟩] (.p (.int .i64 8)) (by kernel_rfl)
theorem b8j:a0A Tryz.prog 262 [.str ⟨⟨[49,48]⟩⟩] (.p (.int .i64 10)):=(a4n 100).call 262 [.str ⟨⟨[49,48]⟩⟩] (.p (.int .i64 10)) (by kernel_rfl)
def ents:List (List UInt8×Int):=[([48],0),([49],1),([50],2),([51],3),([56],8),([49,48],10)]
theorem b7y:∀e,e∈ents->a0A Tryz.prog 262 [.str ⟨⟨e.1⟩⟩] (.p (.int .i64 e.2)):=by
 intro e he;simp only[ents,List.mem_cons,List.not_mem_nil,or_false] at he;rcases he with rfl|rfl|rfl|rfl|rfl|rfl
 ·exact c1R
 ·exact c1K
 ·exact c0i
 ·exact c1k
 ·exact c0y
 ·exact b8j
def b2U:List UInt8->List UInt8->Bool
 |[],[]=>true
 |a ::l,b ::m=>Nat.beq a.toNat b.toNat&&b2U l m
 |_,_=>false
theorem b5c:∀{a b:List UInt8},b2U a b=true->a=b:=by
 intro a
 induction a with
 |nil=>intro b h;cases b with
  |nil=>rfl
  |cons _ _=>cases h
 |cons x xs ih=>intro b h;cases b with
  |nil=>cases h
  |cons y ys=>
   simp only[b2U,bAt] at h;rw[ih h.2,UInt8.toNat_inj.1 (Nat.eq_of_beq_eq_true h.1)]
def b1f(s:List UInt8):List (List UInt8×Int)->Option Int
 |[]=>none
 |e ::l=>if b2U s e.1 then some e.2 else b1f s l
theorem b3p{s:List UInt8}:∀{l:List (List UInt8×Int)} {r:Int},b1f s l=some r->(s,r)∈l:=by
 intro l
 induction l with
 |nil=>intro r h;cases h
 |cons e l ih=>
  intro r h;simp only[b1f] at h
  split at h
  ·rename_i hb
   injection h with h
   subst h;rw[b5c hb];exact List.mem_cons_self
  ·exact List.mem_cons_of_mem _ (ih h)
def c0r(f:FuncId)(args:List PV):Option DV :=
 match args with
 |[.str s]=>if Nat.beq f 262 then match b1f s.data.toList ents with
  |some r=>some (.p (.int .i64 r))
  |none=>none
  else c0M f args
 |_=>c0M f args
theorem b0r(f:FuncId)(args:List PV)(d:DV)(h:c0r f args=some d):a0A Tryz.prog f args d:=by
 unfold c0r at h
 split at h
 ·split at h
  ·rename_i e
   have:=Nat.eq_of_beq_eq_true e;subst this
   split at h
   ·rename_i hr
    injection h with h
    subst h;exact b7y _ (b3p hr)
   ·cases h
  ·exact b0d _ _ _ h
 ·exact b0d _ _ _ h
def c2D:Tbl:=[(155,c2v),(52,F52),(86,F86),(185,c2Z),(50,F50),(82,F82),(51,F51),(186,c4p),(187,c2s),(26,F26),(184,c4L),(138,c3Y),(139,c4l),(137,c3P),(80,F80),(81,F81),(218,c2q),(219,c5B),(83,F83),(84,F84),(129,c5M),(85,F85),(220,c2i),(217,c2n),(174,c4B),(175,c5D),(126,c3x),(127,c2P),(128,c3A),(242,c3v),(131,c4c),(132,c3b),(67,F67),(133,c4w),(134,c3u),(68,F68),(154,c3O),(240,c3G),(188,c3W),(158,c2d),(149,c3t),(241,c2O),(209,c3y),(210,c2y),(211,c3C),(168,c4X),(169,c2S),(170,c5Q),(171,c2Y),(97,F97),(172,c4G),(173,c1r),(98,F98),(183,c2K),(177,c5U),(249,c4F),(180,c2e),(196,c2a),(232,c2U),(233,c3M),(234,c4b),(235,c3R),(236,c3U),(198,c2x),(208,c2H),(216,c5S),(215,c4D),(213,c5L),(250,c4o),(214,c2L),(247,c3i),(239,c5K),(237,c4v),(238,c4W),(251,c4V),(248,c3w),(252,c4z),(253,c4k),(254,c3o),(255,c5H),(121,c2c),(256,c4i),(257,c5N),(258,c3p),(260,c3Z),(261,c3X),(263,c3l),(166,c2z),(264,c2Q),(265,c2j),(266,c2m),(267,c3a),(271,c3c),(273,c5P),(193,c3g),(194,c2w),(195,c3f),(197,c4A),(274,c4N),(275,c3e),(279,c2o),(280,c4h),(283,c2V),(221,c3D),(222,c2r),(223,c4I),(224,c4f),(225,c5E),(284,c5G),(290,c2t),(293,c4C),(307,c4g),(244,c4O),(319,c3s)]
theorem tblP_ok:TblOK Tryz.prog c2D:=.cons c7u <| .cons k52 <| .cons k86 <| .cons c7t <| .cons k50 <| .cons k82 <| .cons k51 <| .cons c6T <| .cons c6j <| .cons k26 <| .cons c7o <| .cons c3N <| .cons c1v <| .cons c1q <| .cons k80 <| .cons k81 <| .cons c6s <| .cons c7g <| .cons k83 <| .cons k84 <| .cons c3k <| .cons k85 <| .cons c5v <| .cons c5i <| .cons c1I <| .cons c2I <| .cons c3n <| .cons c4E <| .cons c4H <| .cons c5e <| .cons c4j <| .cons c3F <| .cons k67 <| .cons c4t <| .cons c3T <| .cons k68 <| .cons c5z <| .cons c7X <| .cons c5W <| .cons c7p <| .cons c7W <| .cons c5Y <| .cons c4x <| .cons c4Z <| .cons c4R <| .cons c5F <| .cons c3m <| .cons c1w <| .cons c3I <| .cons k97 <| .cons c3j <| .cons c2u <| .cons k98 <| .cons c7I <| .cons c5u <| .cons c5s <| .cons c5g <| .cons c2W <| .cons c2f <| .cons c5A <| .cons c3h <| .cons c3z <| .cons c2E <| .cons c4n <| .cons c2l <| .cons c7A <| .cons c5r <| .cons c5q <| .cons c7N <| .cons c6f <| .cons c4J <| .cons c5a <| .cons c7C <| .cons c7i <| .cons c5Z <| .cons c6I <| .cons c6S <| .cons c7P <| .cons c5c <| .cons c7F <| .cons c7d <| .cons c6i <| .cons c7s <| .cons c6F <| .cons c6v <| .cons c6c <| .cons c7j <| .cons c7m <| .cons c7L <| .cons c6a <| .cons c5X <| .cons c6o <| .cons c5y <| .cons c6l <| .cons c7U <| .cons c6P <| .cons c5o <| .cons c5k <| .cons c7r <| .cons c6Y <| .cons c6d <| .cons c7a <| .cons c6D <| .cons c6O <| .cons c6h <| .cons c7Q <| .cons c7V <| .cons c7Y <| .cons c7f <| .cons c7l <| .cons c5b <| .cons c5x <| .cons c6x <| .cons c7H <| .nil
def c9N(n:Nat):Env:=b3M c0r noO c2D n
theorem b8q(n:Nat):(c9N n).OK Tryz.prog:=a4u b0r b2O tblP_ok
end Go.Proofs.YtnjphclbpgajpaaGreatDoor.Vc
