/- Part of a proof over a Go program: Cch. No condition. -/
import Derived.Test.YtnjphclbpgajpaaGreatDoorProg
import Derived.Conc.LoneCalls
import Derived.Conc.LoneSelect
import Derived.KernelRfl
import Derived.Laws.Rows
set_option linter.unnecessarySimpa false
set_option linter.unusedSectionVars false
set_option linter.unusedSimpArgs false
set_option linter.unusedVariables false
namespace Go.Proofs.YtnjphclbpgajpaaGreatDoor.Vc
open Go.Conc Go.RowKit
structure ChTurn (w w':World) (g:Nat) (o:Obj):Prop where
 os:w'.os=w.os
 tape:w'.tape=w.tape
 output:w'.output=w.output
 size:w.heap.size<=w'.heap.size
 at_:w'.heap[g]?=some o
 other:∀k,k<w.heap.size->k≠g->w'.heap[k]?=w.heap[k]?
theorem ChTurn.alloc{w w':World}{g:Nat}{o:Obj}(h:ChTurn w w' g o)(x:Obj):ChTurn w (w'.alloc x) g o :=
 ⟨h.os,h.tape,h.output,by simp;exact Nat.le_succ_of_le h.size,(Below.heap_alloc _ _ _ (Array.getElem?_eq_some_iff.1 h.at_).1).trans h.at_,fun k hk hg=>(Below.heap_alloc _ _ _ (Nat.lt_of_lt_of_le hk h.size)).trans (h.other k hk hg)⟩
theorem ChTurn.setCell{w w':World}{g:Nat}{o:Obj}(h:ChTurn w w' g o)(b i:Nat)(v:Value)(hb:w.heap.size<=b)(hg:g<w.heap.size):ChTurn w (w'.setCell ⟨b,i,none⟩ v) g o :=
 ⟨h.os,h.tape,h.output,by simp[World.setCell];exact h.size,(heap_setCell_other _ _ _ _ (by simp;omega)).trans h.at_,fun k hk hkg=>(heap_setCell_other _ _ _ _ (by simp;omega)).trans (h.other k hk hkg)⟩
theorem ChTurn.first{w w':World}{g cap:Nat}{o:Obj}{buf:Array Value}{closed:Bool}{s r:Nat}{tm:Bool}(h:ChTurn w w' g o)(hg:g<w'.heap.size):ChTurn w (w'.setChan g cap buf closed s r tm) g (.chan cap buf closed s r tm) :=
 ⟨h.os,h.tape,h.output,by simp[World.setChan];exact h.size,heap_setChan _ _ _ _ _ _ _ _ hg,fun k hk hkg=>(by simp[World.setChan,Array.getElem?_setIfInBounds_ne (Ne.symm hkg)]:(w'.setChan g cap buf closed s r tm).heap[k]?=w'.heap[k]?).trans (h.other k hk hkg)⟩
theorem BH(w:World)(c c2 cap:Nat)(buf:Array Value)(closed:Bool)(s r:Nat)(tm:Bool)(h:c≠c2):(w.setChan c cap buf closed s r tm).heap[c2]?=w.heap[c2]?:=by
 simp[World.setChan,Array.getElem?_setIfInBounds_ne h]
set_option maxRecDepth 100000 in
set_option maxHeartbeats 4000000 in
theorem GW{w:World}{blk g cap s r:Nat}{buf:Array Value}(n:Int)(hc:w.cell? ⟨blk,0,none⟩=some (.chan (some g)))(hg:w.heap[g]?=some (.chan cap buf false s r false))(h1:buf.size<cap) :
  Calls Tryz.prog 119 #[.pointer (some ⟨blk,0,none⟩),.int .i64 n] w fun e w'=>e=.returned (.bool true)/\w'=w.setChan g cap (buf.push (.int .i64 n)) false (s+1) r false:=by
 refine calls_of_loneTo fun cs=>?_
 have e:Frame.enter Tryz.prog 119 #[.pointer (some ⟨blk,0,none⟩),.int .i64 n] .normal=(base 119).at ⟨#[.pointer (some ⟨blk,0,none⟩),.int .i64 n,undef,undef,undef,undef,undef,undef,undef,undef,undef],[]⟩ [.code (Tryz.f119.body.getD .skip)]:=by
  simp[Frame.enter,Frame.at,Tryz.func119,base,Tryz.f119]
 rw[e];refine LoneTo.goes (n:=60) ?_;simp only[Tryz.f119,Option.getD_some]
 s_c stepG_seq
 s_reg
 s_op
 s_c stepG_region_end
 s_c stepG_seq
 s_c stepG_seq
 s_reg
 s_op
 s_call Tryz.func164 (by kernel_rfl) Tryz.f164
 s_c stepG_seq
 s_reg
 s_op
 s_c stepG_region_end
 s_c stepG_seq
 s_c stepG_seq
 s_reg
 s_op
 s_op
 s_c stepG_region_end
 s_cond false
 s_c stepG_skip
 s_c stepG_seq
 s_reg
 s_op
 s_op
 s_op
 s_op
 s_op
 s_c stepG_region_end
 s_c stepG_ret'
 s_leave1 Tryz.func164
 s_c stepG_region_end
 s_reg
 s_op
 s_c stepG_region_end
 s_c stepG_seq
 s_reg
 s_stop
 refine LoneTo.step (step_lone_select_send_room (c:=g) (v:=.int .i64 n) (z':=.int .i64 0) (cap:=cap) (buf:=buf) (s:=s) (r:=r) (tm:=false) (stepG_comm (cases := #[scase g (.int .i64 n) (.int .i64 0)]) (blocking:=false) (shape:=.select) (w':=w) rfl rfl (by decide) (by simp[go_sem,execOp,scase,Act.eval])) hg h1) ?_
 rw[Frame.finish_at]
 walk_nrm
 refine LoneTo.goes (n:=20) ?_
 s_op
 s_op
 s_c stepG_region_end
 s_c stepG_block
 s_cond true
 s_c stepG_seq
 s_reg
 s_op
 s_c stepG_region_end
 s_c stepG_ret'
 s_stop
 refine LoneTo.done ⟨.returned (.bool true),_,rfl,⟨rfl,rfl⟩,rfl,rfl,rfl,rfl,_,Tryz.func119,by simp[results,Tryz.f119,Frame.at]⟩
set_option maxRecDepth 100000 in
set_option maxHeartbeats 4000000 in
theorem GD{w:World}{blk g cap s r:Nat}{buf:Array Value}(n:Int)(hc:w.cell? ⟨blk,0,none⟩=some (.chan (some g)))(hg:w.heap[g]?=some (.chan cap buf false s r false))(h1:cap<=buf.size) :
  Calls Tryz.prog 119 #[.pointer (some ⟨blk,0,none⟩),.int .i64 n] w fun e w'=>e=.returned (.bool false)/\w'=w:=by
 refine calls_of_loneTo fun cs=>?_
 have e:Frame.enter Tryz.prog 119 #[.pointer (some ⟨blk,0,none⟩),.int .i64 n] .normal=(base 119).at ⟨#[.pointer (some ⟨blk,0,none⟩),.int .i64 n,undef,undef,undef,undef,undef,undef,undef,undef,undef],[]⟩ [.code (Tryz.f119.body.getD .skip)]:=by
  simp[Frame.enter,Frame.at,Tryz.func119,base,Tryz.f119]
 rw[e];refine LoneTo.goes (n:=60) ?_;simp only[Tryz.f119,Option.getD_some]
 s_c stepG_seq
 s_reg
 s_op
 s_c stepG_region_end
 s_c stepG_seq
 s_c stepG_seq
 s_reg
 s_op
 s_call Tryz.func164 (by kernel_rfl) Tryz.f164
 s_c stepG_seq
 s_reg
 s_op
 s_c stepG_region_end
 s_c stepG_seq
 s_c stepG_seq
 s_reg
 s_op
 s_op
 s_c stepG_region_end
 s_cond false
 s_c stepG_skip
 s_c stepG_seq
 s_reg
 s_op
 s_op
 s_op
 s_op
 s_op
 s_c stepG_region_end
 s_c stepG_ret'
 s_leave1 Tryz.func164
 s_c stepG_region_end
 s_reg
 s_op
 s_c stepG_region_end
 s_c stepG_seq
 s_reg
 s_stop
 refine LoneTo.step (step_lone_select_send_full (c:=g) (v:=.int .i64 n) (z':=.int .i64 0) (cap:=cap) (buf:=buf) (s:=s) (r:=r) (tm:=false) (stepG_comm (cases := #[scase g (.int .i64 n) (.int .i64 0)]) (blocking:=false) (shape:=.select) (w':=w) rfl rfl (by decide) (by simp[go_sem,execOp,scase,Act.eval])) hg h1) ?_
 rw[Frame.finish_at]
 walk_nrm
 refine LoneTo.goes (n:=20) ?_
 s_op
 s_op
 s_c stepG_region_end
 s_c stepG_block
 s_cond false
 s_c stepG_seq
 s_reg
 s_op
 s_c stepG_region_end
 s_c stepG_ret'
 s_stop
 refine LoneTo.done ⟨.returned (.bool false),_,rfl,⟨rfl,rfl⟩,rfl,rfl,rfl,rfl,_,Tryz.func119,by simp[results,Tryz.f119,Frame.at]⟩
set_option maxRecDepth 100000 in
set_option maxHeartbeats 4000000 in
theorem DD{w:World}{blk g cap s r:Nat}{buf:Array Value}(hc:w.cell? ⟨blk,0,none⟩=some (.chan (some g)))(hg:w.heap[g]?=some (.chan cap buf false s r false)){v:Value}(h1:0<buf.size)(hv:buf[0]?=some v) :
  Calls Tryz.prog 165 #[.pointer (some ⟨blk,0,none⟩)] w fun e w'=>e=.returned (.tuple #[v,.bool true])/\w'=w.setChan g cap (buf.extract 1 buf.size) false s (r+1) false:=by
 refine calls_of_loneTo fun cs=>?_
 have e:Frame.enter Tryz.prog 165 #[.pointer (some ⟨blk,0,none⟩)] .normal=(base 165).at ⟨#[.pointer (some ⟨blk,0,none⟩),undef,undef,undef,undef,undef,undef,undef,undef,undef,undef,undef,undef,undef],[]⟩ [.code (Tryz.f165.body.getD .skip)]:=by
  simp[Frame.enter,Frame.at,Tryz.func165,base,Tryz.f165]
 rw[e];refine LoneTo.goes (n:=60) ?_;simp only[Tryz.f165,Option.getD_some]
 s_c stepG_seq
 s_reg
 s_op
 s_op
 s_c stepG_region_end
 s_c stepG_seq
 s_reg
 s_op
 s_c stepG_region_end
 s_c stepG_seq
 s_reg
 s_op
 s_call Tryz.func164 (by kernel_rfl) Tryz.f164
 s_c stepG_seq
 s_reg
 s_op
 s_c stepG_region_end
 s_c stepG_seq
 s_c stepG_seq
 s_reg
 s_op
 s_op
 s_c stepG_region_end
 s_cond false
 s_c stepG_skip
 s_c stepG_seq
 s_reg
 s_op
 s_op
 s_op
 s_op
 s_op
 s_c stepG_region_end
 s_c stepG_ret'
 s_leave1 Tryz.func164
 s_c stepG_region_end
 s_c stepG_seq
 s_reg
 s_stop
 refine LoneTo.step (step_lone_select_recv_buf (c:=g) (z:=.int .i64 0) (cap:=cap) (buf:=buf) (closed:=false) (s:=s) (r:=r) (tm:=false) (stepG_comm (cases := #[rcase g (.int .i64 0)]) (blocking:=false) (shape:=.select) (w':=w) rfl rfl (by decide) (by simp[go_sem,execOp,rcase,Act.eval])) hg h1) ?_
 rw[Frame.finish_at]
 walk_nrm
 refine LoneTo.goes (n:=30) ?_
 s_op
 s_op
 s_c stepG_region_end
 s_c stepG_block
 s_cond true
 s_c stepG_seq
 s_reg
 s_op
 s_op
 s_c stepG_region_end
 s_c stepG_seq
 s_reg
 s_op
 s_op
 s_op
 s_c stepG_region_end
 s_c stepG_ret'
 s_stop
 have hv0:buf[0]=v:=(Array.getElem?_eq_some_iff.1 hv).2;refine LoneTo.done ⟨.returned (.tuple #[v,.bool true]),_,rfl,⟨rfl,rfl⟩,rfl,rfl,rfl,rfl,_,Tryz.func165,by simp[results,Tryz.f165,Frame.at,hv0]⟩
set_option maxRecDepth 100000 in
set_option maxHeartbeats 4000000 in
theorem EC{w:World}{blk g cap s r:Nat}(hc:w.cell? ⟨blk,0,none⟩=some (.chan (some g)))(hg:w.heap[g]?=some (.chan cap #[] false s r false))  :
  Calls Tryz.prog 165 #[.pointer (some ⟨blk,0,none⟩)] w fun e w'=>e=.returned (.tuple #[.int .i64 0,.bool false])/\w'=w:=by
 refine calls_of_loneTo fun cs=>?_
 have e:Frame.enter Tryz.prog 165 #[.pointer (some ⟨blk,0,none⟩)] .normal=(base 165).at ⟨#[.pointer (some ⟨blk,0,none⟩),undef,undef,undef,undef,undef,undef,undef,undef,undef,undef,undef,undef,undef],[]⟩ [.code (Tryz.f165.body.getD .skip)]:=by
  simp[Frame.enter,Frame.at,Tryz.func165,base,Tryz.f165]
 rw[e];refine LoneTo.goes (n:=60) ?_;simp only[Tryz.f165,Option.getD_some]
 s_c stepG_seq
 s_reg
 s_op
 s_op
 s_c stepG_region_end
 s_c stepG_seq
 s_reg
 s_op
 s_c stepG_region_end
 s_c stepG_seq
 s_reg
 s_op
 s_call Tryz.func164 (by kernel_rfl) Tryz.f164
 s_c stepG_seq
 s_reg
 s_op
 s_c stepG_region_end
 s_c stepG_seq
 s_c stepG_seq
 s_reg
 s_op
 s_op
 s_c stepG_region_end
 s_cond false
 s_c stepG_skip
 s_c stepG_seq
 s_reg
 s_op
 s_op
 s_op
 s_op
 s_op
 s_c stepG_region_end
 s_c stepG_ret'
 s_leave1 Tryz.func164
 s_c stepG_region_end
 s_c stepG_seq
 s_reg
 s_stop
 refine LoneTo.step (step_lone_select_default (c:=g) (z:=.int .i64 0) (cap:=cap) (s:=s) (r:=r) (tm:=false) (stepG_comm (cases := #[rcase g (.int .i64 0)]) (blocking:=false) (shape:=.select) (w':=w) rfl rfl (by decide) (by simp[go_sem,execOp,rcase,Act.eval])) hg) ?_
 rw[Frame.finish_at]
 walk_nrm
 refine LoneTo.goes (n:=30) ?_
 s_op
 s_op
 s_c stepG_region_end
 s_c stepG_block
 s_cond false
 s_c stepG_seq
 s_reg
 s_op
 s_op
 s_op
 s_c stepG_region_end
 s_c stepG_ret'
 s_stop
 refine LoneTo.done ⟨.returned (.tuple #[.int .i64 0,.bool false]),_,rfl,⟨rfl,rfl⟩,rfl,rfl,rfl,rfl,_,Tryz.func165,by simp[results,Tryz.f165,Frame.at]⟩
theorem w9{P:Program}{w:World}{g cap s r:Nat}{buf:Array Value}(hg:w.heap[g]?=some (.chan cap buf false s r false)):(getObj g).run P w=.ok (.chan cap buf false s r false) w:=by
 simp[getObj,Sem.run,hg]
set_option maxRecDepth 100000 in
set_option maxHeartbeats 4000000 in
theorem MW{w:World}{blk g cap s r:Nat}{buf:Array Value}(hc:w.cell? ⟨blk,0,none⟩=some (.chan (some g)))(hg:w.heap[g]?=some (.chan cap buf false s r false)) :
  Calls Tryz.prog 124 #[.pointer (some ⟨blk,0,none⟩)] w fun e w'=>e=.returned (.int .i64 buf.size)/\w'=w:=by
 refine calls_of_loneTo fun cs=>?_
 have e:Frame.enter Tryz.prog 124 #[.pointer (some ⟨blk,0,none⟩)] .normal=(base 124).at ⟨#[.pointer (some ⟨blk,0,none⟩),undef,undef,undef,undef,undef],[]⟩ [.code (Tryz.f124.body.getD .skip)]:=by
  simp[Frame.enter,Frame.at,Tryz.func124,base,Tryz.f124]
 rw[e]
 have hlen:∀ty,(Builtin.len_ #[226] ty #[.chan (some g)]).run Tryz.prog w=.ok (goInt buf.size) w:=fun ty=>by
  simp[Builtin.len_,run_underlying Tryz.underlying226,w9 hg]
 refine LoneTo.goes (n:=60) ?_;simp only[Tryz.f124,Option.getD_some]
 s_c stepG_seq
 s_reg
 s_op
 s_c stepG_region_end
 s_c stepG_seq
 s_reg
 s_op
 s_call Tryz.func164 (by kernel_rfl) Tryz.f164
 s_c stepG_seq
 s_reg
 s_op
 s_c stepG_region_end
 s_c stepG_seq
 s_c stepG_seq
 s_reg
 s_op
 s_op
 s_c stepG_region_end
 s_cond false
 s_c stepG_skip
 s_c stepG_seq
 s_reg
 s_op
 s_op
 s_op
 s_op
 s_op
 s_c stepG_region_end
 s_c stepG_ret'
 s_leave1 Tryz.func164
 s_op
 s_op
 s_c stepG_region_end
 s_c stepG_ret'
 s_stop
 refine LoneTo.done ⟨.returned (.int .i64 buf.size),_,rfl,⟨rfl,rfl⟩,rfl,rfl,rfl,rfl,_,Tryz.func124,by simp[results,Tryz.f124,Frame.at]⟩
theorem QX:∃i,Tryz.prog.info? 3=some i/\i.bytes<=40:=by
 have h:(Tryz.prog.info? 3).map (fun i=>decide (i.bytes<=40))=some true:=by kernel_rfl
 obtain⟨i,hi,hb⟩:=Option.map_eq_some_iff.1 h;exact⟨i,hi,by simpa using hb⟩
set_option maxRecDepth 100000 in
set_option maxHeartbeats 4000000 in
theorem MG{w:World}(k:Nat)(hk:k<=100) :
  Calls Tryz.prog 112 #[.int .i64 k] w fun e w'=>e=.returned (.pointer (some ⟨w.heap.size+1,0,none⟩))/\w'=(w.alloc (.chan k #[] false 0 0 false)).alloc (.cells #[.chan (some w.heap.size)] 228 (0,0)):=by
 refine calls_of_loneTo fun cs=>?_
 have e:Frame.enter Tryz.prog 112 #[.int .i64 k] .normal=(base 112).at ⟨#[.int .i64 k,undef,undef,undef,undef,undef,undef,undef,undef],[]⟩ [.code (Tryz.f112.body.getD .skip)]:=by
  simp[Frame.enter,Frame.at,Tryz.func112,base,Tryz.f112]
 rw[e]
 have hmc:∀w:World,(Instr.makeChan 226 (.int .i64 k)).run Tryz.prog w=.ok (.chan (some w.heap.size)) (w.alloc (.chan k #[] false 0 0 false)):=fun w=>by
  obtain⟨i,hi,hb⟩:=QX
  simpa using run_makeChan (P:=Tryz.prog) (w:=w) Tryz.underlying226 hi .i64 k (by omega) (by have:(i.bytes:Int)*k<=40*100:=Int.mul_le_mul (by omega) (by omega) (by omega) (by omega);omega)
 have h1:(if (0:Int)>(k:Int) then (0:Int) else (k:Int))=k:=if_neg (by omega)
 have h2:(if (100:Int)<(k:Int) then (100:Int) else (k:Int))=k:=if_neg (by omega)
 have hbd:∀(w:World) (g:Nat),(Instr.build 228 #[(0,.chan (some g))]).run Tryz.prog w=.ok (.agg #[.chan (some g)]) w:=fun w g=>run_build w 228 _ _ (by kernel_rfl)
 refine LoneTo.goes (n:=60) ?_;simp only[Tryz.f112,Option.getD_some]
 s_c stepG_seq
 s_reg
 s_op
 s_c stepG_region_end
 s_c stepG_seq
 s_reg
 s_op
 s_op
 rw[h1]
 walk_nrm
 s_op
 rw[h2]
 walk_nrm
 s_op
 s_op
 s_op
 s_op
 s_c stepG_region_end
 s_c stepG_ret'
 s_stop
 refine LoneTo.done ⟨.returned (.pointer (some ⟨w.heap.size+1,0,none⟩)),_,rfl,⟨rfl,rfl⟩,rfl,rfl,rfl,rfl,_,Tryz.func112,by simp[results,Tryz.f112,Frame.at]⟩
theorem SW:∃i,Tryz.prog.info? 55=some i/\i.bytes<=40:=by
 have h:(Tryz.prog.info? 55).map (fun i=>decide (i.bytes<=40))=some true:=by kernel_rfl
 obtain⟨i,hi,hb⟩:=Option.map_eq_some_iff.1 h;exact⟨i,hi,by simpa using hb⟩
set_option maxRecDepth 100000 in
set_option maxHeartbeats 4000000 in
theorem MP{w:World}(k:Nat)(hk:k<=100) :
  Calls Tryz.prog 59 #[.int .i64 k] w fun e w'=>e=.returned (.pointer (some ⟨w.heap.size+1,0,none⟩))/\w'=(w.alloc (.chan k #[] false 0 0 false)).alloc (.cells #[.chan (some w.heap.size)] 144 (0,0)):=by
 refine calls_of_loneTo fun cs=>?_
 have e:Frame.enter Tryz.prog 59 #[.int .i64 k] .normal=(base 59).at ⟨#[.int .i64 k,undef,undef,undef,undef,undef,undef,undef,undef],[]⟩ [.code (Tryz.f59.body.getD .skip)]:=by
  simp[Frame.enter,Frame.at,Tryz.func59,base,Tryz.f59]
 rw[e]
 have hmc:∀w:World,(Instr.makeChan 142 (.int .i64 k)).run Tryz.prog w=.ok (.chan (some w.heap.size)) (w.alloc (.chan k #[] false 0 0 false)):=fun w=>by
  obtain⟨i,hi,hb⟩:=SW
  simpa using run_makeChan (P:=Tryz.prog) (w:=w) Tryz.underlying142 hi .i64 k (by omega) (by have:(i.bytes:Int)*k<=40*100:=Int.mul_le_mul (by omega) (by omega) (by omega) (by omega);omega)
 have h1:(if (0:Int)>(k:Int) then (0:Int) else (k:Int))=k:=if_neg (by omega)
 have h2:(if (100:Int)<(k:Int) then (100:Int) else (k:Int))=k:=if_neg (by omega)
 have hbd:∀(w:World) (g:Nat),(Instr.build 144 #[(0,.chan (some g))]).run Tryz.prog w=.ok (.agg #[.chan (some g)]) w:=fun w g=>run_build w 144 _ _ (by kernel_rfl)
 refine LoneTo.goes (n:=60) ?_;simp only[Tryz.f59,Option.getD_some]
 s_c stepG_seq
 s_reg
 s_op
 s_c stepG_region_end
 s_c stepG_seq
 s_reg
 s_op
 s_op
 rw[h1]
 walk_nrm
 s_op
 rw[h2]
 walk_nrm
 s_op
 s_op
 s_op
 s_op
 s_c stepG_region_end
 s_c stepG_ret'
 s_stop
 refine LoneTo.done ⟨.returned (.pointer (some ⟨w.heap.size+1,0,none⟩)),_,rfl,⟨rfl,rfl⟩,rfl,rfl,rfl,rfl,_,Tryz.func59,by simp[results,Tryz.f59,Frame.at]⟩
set_option maxRecDepth 100000 in
set_option maxHeartbeats 4000000 in
theorem G1{w:World}{blk g cap s r:Nat}{buf:Array Value}(a0 a1 a2 a3 a4:Int)(hc:w.cell? ⟨blk,0,none⟩=some (.chan (some g)))(hg:w.heap[g]?=some (.chan cap buf false s r false))(h1:buf.size<cap) :
  Calls Tryz.prog 62 #[.pointer (some ⟨blk,0,none⟩),.agg #[.int .i64 a0,.int .i64 a1,.int .i64 a2,.int .i64 a3,.int .i64 a4]] w fun e w'=>e=.returned (.bool true)/\w'=(w.alloc (.cells #[.int .i64 a0,.int .i64 a1,.int .i64 a2,.int .i64 a3,.int .i64 a4] 55 (0,0))).setChan g cap (buf.push (.agg #[.int .i64 a0,.int .i64 a1,.int .i64 a2,.int .i64 a3,.int .i64 a4])) false (s+1) r false:=by
 refine calls_of_loneTo fun cs=>?_
 have e:Frame.enter Tryz.prog 62 #[.pointer (some ⟨blk,0,none⟩),.agg #[.int .i64 a0,.int .i64 a1,.int .i64 a2,.int .i64 a3,.int .i64 a4]] .normal=(base 62).at ⟨#[.pointer (some ⟨blk,0,none⟩),.agg #[.int .i64 a0,.int .i64 a1,.int .i64 a2,.int .i64 a3,.int .i64 a4],undef,undef,undef,undef,undef,undef,undef,undef,undef],[]⟩ [.code (Tryz.f62.body.getD .skip)]:=by
  simp[Frame.enter,Frame.at,Tryz.func62,base,Tryz.f62]
 rw[e];refine LoneTo.goes (n:=60) ?_;simp only[Tryz.f62,Option.getD_some]
 s_c stepG_seq
 s_reg
 s_op
 s_op
 s_c stepG_region_end
 s_c stepG_seq
 s_c stepG_seq
 s_reg
 s_op
 have hc1:(w.alloc (.cells #[.int .i64 a0,.int .i64 a1,.int .i64 a2,.int .i64 a3,.int .i64 a4] 55 (0,0))).cell? ⟨blk,0,none⟩=some (.chan (some g)):=by rw[World.cell?_alloc_lt _ _ _ (World.block_lt_of_cell? _ _ hc)];exact hc
 have hg1:(w.alloc (.cells #[.int .i64 a0,.int .i64 a1,.int .i64 a2,.int .i64 a3,.int .i64 a4] 55 (0,0))).heap[g]?=some (.chan cap buf false s r false):=(Below.heap_alloc _ _ _ (Array.getElem?_eq_some_iff.1 hg).1).trans hg;have c0:(w.alloc (.cells #[.int .i64 a0,.int .i64 a1,.int .i64 a2,.int .i64 a3,.int .i64 a4] 55 (0,0))).cell? ⟨w.heap.size,0,none⟩=some (.int .i64 a0):=by simp only[World.cell?];rw[heap_alloc_new];rfl
 have c1:(w.alloc (.cells #[.int .i64 a0,.int .i64 a1,.int .i64 a2,.int .i64 a3,.int .i64 a4] 55 (0,0))).cell? ⟨w.heap.size,1,none⟩=some (.int .i64 a1):=by simp only[World.cell?];rw[heap_alloc_new];rfl
 have c2:(w.alloc (.cells #[.int .i64 a0,.int .i64 a1,.int .i64 a2,.int .i64 a3,.int .i64 a4] 55 (0,0))).cell? ⟨w.heap.size,2,none⟩=some (.int .i64 a2):=by simp only[World.cell?];rw[heap_alloc_new];rfl
 have c3:(w.alloc (.cells #[.int .i64 a0,.int .i64 a1,.int .i64 a2,.int .i64 a3,.int .i64 a4] 55 (0,0))).cell? ⟨w.heap.size,3,none⟩=some (.int .i64 a3):=by simp only[World.cell?];rw[heap_alloc_new];rfl
 have c4:(w.alloc (.cells #[.int .i64 a0,.int .i64 a1,.int .i64 a2,.int .i64 a3,.int .i64 a4] 55 (0,0))).cell? ⟨w.heap.size,4,none⟩=some (.int .i64 a4):=by simp only[World.cell?];rw[heap_alloc_new];rfl
 generalize w.alloc (.cells #[.int .i64 a0,.int .i64 a1,.int .i64 a2,.int .i64 a3,.int .i64 a4] 55 (0,0))=W1 at *
 s_call Tryz.func92 (by kernel_rfl) Tryz.f92
 s_c stepG_seq
 s_reg
 s_op
 s_c stepG_region_end
 s_c stepG_seq
 s_c stepG_seq
 s_reg
 s_op
 s_op
 s_c stepG_region_end
 s_cond false
 s_c stepG_skip
 s_c stepG_seq
 s_reg
 s_op
 s_op
 s_op
 s_op
 s_op
 s_c stepG_region_end
 s_c stepG_ret'
 s_leave1 Tryz.func92
 s_c stepG_region_end
 s_reg
 s_op
 s_c stepG_region_end
 s_c stepG_seq
 s_reg
 s_stop
 refine LoneTo.step (step_lone_select_send_room (c:=g) (v:=.agg #[.int .i64 a0,.int .i64 a1,.int .i64 a2,.int .i64 a3,.int .i64 a4]) (z':=.agg #[.int .i64 0,.int .i64 0,.int .i64 0,.int .i64 0,.int .i64 0]) (cap:=cap) (buf:=buf) (s:=s) (r:=r) (tm:=false) (stepG_comm (cases := #[scase g (.agg #[.int .i64 a0,.int .i64 a1,.int .i64 a2,.int .i64 a3,.int .i64 a4]) (.agg #[.int .i64 0,.int .i64 0,.int .i64 0,.int .i64 0,.int .i64 0])]) (blocking:=false) (shape:=.select) (w':=W1) rfl rfl (by decide) (by simp[go_sem,execOp,scase,Act.eval])) hg1 h1) ?_
 rw[Frame.finish_at]
 walk_nrm
 refine LoneTo.goes (n:=20) ?_
 s_op
 s_op
 s_c stepG_region_end
 s_c stepG_block
 s_cond true
 s_c stepG_seq
 s_reg
 s_op
 s_c stepG_region_end
 s_c stepG_ret'
 s_stop
 refine LoneTo.done ⟨.returned (.bool true),_,rfl,⟨rfl,rfl⟩,rfl,rfl,rfl,rfl,_,Tryz.func62,by simp[results,Tryz.f62,Frame.at]⟩
set_option maxRecDepth 100000 in
set_option maxHeartbeats 4000000 in
theorem GG{w:World}{blk g cap s r:Nat}{buf:Array Value}(a0 a1 a2 a3 a4:Int)(hc:w.cell? ⟨blk,0,none⟩=some (.chan (some g)))(hg:w.heap[g]?=some (.chan cap buf false s r false))(h1:cap<=buf.size) :
  Calls Tryz.prog 62 #[.pointer (some ⟨blk,0,none⟩),.agg #[.int .i64 a0,.int .i64 a1,.int .i64 a2,.int .i64 a3,.int .i64 a4]] w fun e w'=>e=.returned (.bool false)/\w'=(w.alloc (.cells #[.int .i64 a0,.int .i64 a1,.int .i64 a2,.int .i64 a3,.int .i64 a4] 55 (0,0))):=by
 refine calls_of_loneTo fun cs=>?_
 have e:Frame.enter Tryz.prog 62 #[.pointer (some ⟨blk,0,none⟩),.agg #[.int .i64 a0,.int .i64 a1,.int .i64 a2,.int .i64 a3,.int .i64 a4]] .normal=(base 62).at ⟨#[.pointer (some ⟨blk,0,none⟩),.agg #[.int .i64 a0,.int .i64 a1,.int .i64 a2,.int .i64 a3,.int .i64 a4],undef,undef,undef,undef,undef,undef,undef,undef,undef],[]⟩ [.code (Tryz.f62.body.getD .skip)]:=by
  simp[Frame.enter,Frame.at,Tryz.func62,base,Tryz.f62]
 rw[e];refine LoneTo.goes (n:=60) ?_;simp only[Tryz.f62,Option.getD_some]
 s_c stepG_seq
 s_reg
 s_op
 s_op
 s_c stepG_region_end
 s_c stepG_seq
 s_c stepG_seq
 s_reg
 s_op
 have hc1:(w.alloc (.cells #[.int .i64 a0,.int .i64 a1,.int .i64 a2,.int .i64 a3,.int .i64 a4] 55 (0,0))).cell? ⟨blk,0,none⟩=some (.chan (some g)):=by rw[World.cell?_alloc_lt _ _ _ (World.block_lt_of_cell? _ _ hc)];exact hc
 have hg1:(w.alloc (.cells #[.int .i64 a0,.int .i64 a1,.int .i64 a2,.int .i64 a3,.int .i64 a4] 55 (0,0))).heap[g]?=some (.chan cap buf false s r false):=(Below.heap_alloc _ _ _ (Array.getElem?_eq_some_iff.1 hg).1).trans hg;have c0:(w.alloc (.cells #[.int .i64 a0,.int .i64 a1,.int .i64 a2,.int .i64 a3,.int .i64 a4] 55 (0,0))).cell? ⟨w.heap.size,0,none⟩=some (.int .i64 a0):=by simp only[World.cell?];rw[heap_alloc_new];rfl
 have c1:(w.alloc (.cells #[.int .i64 a0,.int .i64 a1,.int .i64 a2,.int .i64 a3,.int .i64 a4] 55 (0,0))).cell? ⟨w.heap.size,1,none⟩=some (.int .i64 a1):=by simp only[World.cell?];rw[heap_alloc_new];rfl
 have c2:(w.alloc (.cells #[.int .i64 a0,.int .i64 a1,.int .i64 a2,.int .i64 a3,.int .i64 a4] 55 (0,0))).cell? ⟨w.heap.size,2,none⟩=some (.int .i64 a2):=by simp only[World.cell?];rw[heap_alloc_new];rfl
 have c3:(w.alloc (.cells #[.int .i64 a0,.int .i64 a1,.int .i64 a2,.int .i64 a3,.int .i64 a4] 55 (0,0))).cell? ⟨w.heap.size,3,none⟩=some (.int .i64 a3):=by simp only[World.cell?];rw[heap_alloc_new];rfl
 have c4:(w.alloc (.cells #[.int .i64 a0,.int .i64 a1,.int .i64 a2,.int .i64 a3,.int .i64 a4] 55 (0,0))).cell? ⟨w.heap.size,4,none⟩=some (.int .i64 a4):=by simp only[World.cell?];rw[heap_alloc_new];rfl
 generalize w.alloc (.cells #[.int .i64 a0,.int .i64 a1,.int .i64 a2,.int .i64 a3,.int .i64 a4] 55 (0,0))=W1 at *
 s_call Tryz.func92 (by kernel_rfl) Tryz.f92
 s_c stepG_seq
 s_reg
 s_op
 s_c stepG_region_end
 s_c stepG_seq
 s_c stepG_seq
 s_reg
 s_op
 s_op
 s_c stepG_region_end
 s_cond false
 s_c stepG_skip
 s_c stepG_seq
 s_reg
 s_op
 s_op
 s_op
 s_op
 s_op
 s_c stepG_region_end
 s_c stepG_ret'
 s_leave1 Tryz.func92
 s_c stepG_region_end
 s_reg
 s_op
 s_c stepG_region_end
 s_c stepG_seq
 s_reg
 s_stop
 refine LoneTo.step (step_lone_select_send_full (c:=g) (v:=.agg #[.int .i64 a0,.int .i64 a1,.int .i64 a2,.int .i64 a3,.int .i64 a4]) (z':=.agg #[.int .i64 0,.int .i64 0,.int .i64 0,.int .i64 0,.int .i64 0]) (cap:=cap) (buf:=buf) (s:=s) (r:=r) (tm:=false) (stepG_comm (cases := #[scase g (.agg #[.int .i64 a0,.int .i64 a1,.int .i64 a2,.int .i64 a3,.int .i64 a4]) (.agg #[.int .i64 0,.int .i64 0,.int .i64 0,.int .i64 0,.int .i64 0])]) (blocking:=false) (shape:=.select) (w':=W1) rfl rfl (by decide) (by simp[go_sem,execOp,scase,Act.eval])) hg1 h1) ?_
 rw[Frame.finish_at]
 walk_nrm
 refine LoneTo.goes (n:=20) ?_
 s_op
 s_op
 s_c stepG_region_end
 s_c stepG_block
 s_cond false
 s_c stepG_seq
 s_reg
 s_op
 s_c stepG_region_end
 s_c stepG_ret'
 s_stop
 refine LoneTo.done ⟨.returned (.bool false),_,rfl,⟨rfl,rfl⟩,rfl,rfl,rfl,rfl,_,Tryz.func62,by simp[results,Tryz.f62,Frame.at]⟩
set_option maxRecDepth 100000 in
set_option maxHeartbeats 4000000 in
theorem D7{w:World}{blk g cap s r:Nat}{buf:Array Value}(hc:w.cell? ⟨blk,0,none⟩=some (.chan (some g)))(hg:w.heap[g]?=some (.chan cap buf false s r false))(a0 a1 a2 a3 a4:Int)(h1:0<buf.size)(hv:buf[0]?=some (.agg #[.int .i64 a0,.int .i64 a1,.int .i64 a2,.int .i64 a3,.int .i64 a4])) :
  Calls Tryz.prog 90 #[.pointer (some ⟨blk,0,none⟩)] w fun e w'=>e=.returned (.tuple #[.agg #[.int .i64 a0,.int .i64 a1,.int .i64 a2,.int .i64 a3,.int .i64 a4],.bool true])/\ChTurn w w' g (.chan cap (buf.extract 1) false s (r+1) false):=by
 refine calls_of_loneTo fun cs=>?_
 have e:Frame.enter Tryz.prog 90 #[.pointer (some ⟨blk,0,none⟩)] .normal=(base 90).at ⟨#[.pointer (some ⟨blk,0,none⟩),undef,undef,undef,undef,undef,undef,undef,undef,undef,undef,undef,undef,undef],[]⟩ [.code (Tryz.f90.body.getD .skip)]:=by
  simp[Frame.enter,Frame.at,Tryz.func90,base,Tryz.f90]
 rw[e];refine LoneTo.goes (n:=60) ?_;simp only[Tryz.f90,Option.getD_some]
 s_c stepG_seq
 s_reg
 s_op
 s_op
 s_c stepG_region_end
 s_c stepG_seq
 s_reg
 s_op
 have hb0:blk<w.heap.size:=World.block_lt_of_cell? _ _ hc;have hg0:g<w.heap.size:=(Array.getElem?_eq_some_iff.1 hg).1;have hc1:((w.alloc (.cells #[.int .i64 0,.int .i64 0,.int .i64 0,.int .i64 0,.int .i64 0] 55 (0,0))).alloc (.cells #[.int .i64 0,.int .i64 0,.int .i64 0,.int .i64 0,.int .i64 0] 55 (0,0))).cell? ⟨blk,0,none⟩=some (.chan (some g)):=by rw[World.cell?_alloc_lt _ _ _ (by simp;omega),World.cell?_alloc_lt _ _ _ hb0];exact hc
 have hg1:((w.alloc (.cells #[.int .i64 0,.int .i64 0,.int .i64 0,.int .i64 0,.int .i64 0] 55 (0,0))).alloc (.cells #[.int .i64 0,.int .i64 0,.int .i64 0,.int .i64 0,.int .i64 0] 55 (0,0))).heap[g]?=some (.chan cap buf false s r false):=((Below.heap_alloc _ _ _ (by simp;omega)).trans (Below.heap_alloc _ _ _ hg0)).trans hg
 have hr1:((w.alloc (.cells #[.int .i64 0,.int .i64 0,.int .i64 0,.int .i64 0,.int .i64 0] 55 (0,0))).alloc (.cells #[.int .i64 0,.int .i64 0,.int .i64 0,.int .i64 0,.int .i64 0] 55 (0,0))).heap[w.heap.size]?=some (.cells #[.int .i64 0,.int .i64 0,.int .i64 0,.int .i64 0,.int .i64 0] 55 (0,0)):=(Below.heap_alloc _ _ _ (by simp)).trans (heap_alloc_new w _)
 have hz1:((w.alloc (.cells #[.int .i64 0,.int .i64 0,.int .i64 0,.int .i64 0,.int .i64 0] 55 (0,0))).alloc (.cells #[.int .i64 0,.int .i64 0,.int .i64 0,.int .i64 0,.int .i64 0] 55 (0,0))).heap[w.heap.size+1]?=some (.cells #[.int .i64 0,.int .i64 0,.int .i64 0,.int .i64 0,.int .i64 0] 55 (0,0)):=by have:=heap_alloc_new (w.alloc (.cells #[.int .i64 0,.int .i64 0,.int .i64 0,.int .i64 0,.int .i64 0] 55 (0,0))) (.cells #[.int .i64 0,.int .i64 0,.int .i64 0,.int .i64 0,.int .i64 0] 55 (0,0));simpa only [World.size_alloc] using this
 have hs1:((w.alloc (.cells #[.int .i64 0,.int .i64 0,.int .i64 0,.int .i64 0,.int .i64 0] 55 (0,0))).alloc (.cells #[.int .i64 0,.int .i64 0,.int .i64 0,.int .i64 0,.int .i64 0] 55 (0,0))).heap.size=w.heap.size+2:=by simp
 have ht1:ChTurn w ((w.alloc (.cells #[.int .i64 0,.int .i64 0,.int .i64 0,.int .i64 0,.int .i64 0] 55 (0,0))).alloc (.cells #[.int .i64 0,.int .i64 0,.int .i64 0,.int .i64 0,.int .i64 0] 55 (0,0))) g (.chan cap buf false s r false):=⟨rfl,rfl,rfl,by simp;omega,hg1,fun k hk _=>(Below.heap_alloc _ _ _ (by simp;omega)).trans (Below.heap_alloc _ _ _ hk)⟩
 generalize (w.alloc (.cells #[.int .i64 0,.int .i64 0,.int .i64 0,.int .i64 0,.int .i64 0] 55 (0,0))).alloc (.cells #[.int .i64 0,.int .i64 0,.int .i64 0,.int .i64 0,.int .i64 0] 55 (0,0))=W1 at *
 s_c stepG_region_end
 s_c stepG_seq
 s_reg
 s_op
 s_call Tryz.func92 (by kernel_rfl) Tryz.f92
 s_c stepG_seq
 s_reg
 s_op
 s_c stepG_region_end
 s_c stepG_seq
 s_c stepG_seq
 s_reg
 s_op
 s_op
 s_c stepG_region_end
 s_cond false
 s_c stepG_skip
 s_c stepG_seq
 s_reg
 s_op
 s_op
 s_op
 s_op
 s_op
 s_c stepG_region_end
 s_c stepG_ret'
 s_leave1 Tryz.func92
 s_c stepG_region_end
 s_c stepG_seq
 s_reg
 s_stop
 refine LoneTo.step (step_lone_select_recv_buf (c:=g) (z:=.agg #[.int .i64 0,.int .i64 0,.int .i64 0,.int .i64 0,.int .i64 0]) (cap:=cap) (buf:=buf) (closed:=false) (s:=s) (r:=r) (tm:=false) (stepG_comm (cases := #[rcase g (.agg #[.int .i64 0,.int .i64 0,.int .i64 0,.int .i64 0,.int .i64 0])]) (blocking:=false) (shape:=.select) (w':=W1) rfl rfl (by decide) (by simp[go_sem,execOp,rcase,Act.eval])) hg1 h1) ?_
 rw[Frame.finish_at]
 walk_nrm
 refine LoneTo.goes (n:=40) ?_
 s_op
 s_op
 s_c stepG_region_end
 s_c stepG_block
 s_cond true
 s_c stepG_seq
 s_reg
 s_op
 s_op
 have hv0:buf[0]=.agg #[.int .i64 a0,.int .i64 a1,.int .i64 a2,.int .i64 a3,.int .i64 a4]:=(Array.getElem?_eq_some_iff.1 hv).2;simp only[hv0];have hn3:(W1.setChan g cap (buf.extract 1) false s (r+1) false).heap.size=w.heap.size+2:=by simp[World.setChan,hs1]
 have zA:((W1.setChan g cap (buf.extract 1) false s (r+1) false).alloc (.cells #[.int .i64 0,.int .i64 0,.int .i64 0,.int .i64 0,.int .i64 0] 55 (0,0))).heap[w.heap.size+2]?=some (.cells #[.int .i64 0,.int .i64 0,.int .i64 0,.int .i64 0,.int .i64 0] 55 (0,0)):=by rw[<-hn3];exact heap_alloc_new _ _
 have kA:((W1.setChan g cap (buf.extract 1) false s (r+1) false).alloc (.cells #[.int .i64 0,.int .i64 0,.int .i64 0,.int .i64 0,.int .i64 0] 55 (0,0))).heap[w.heap.size]?=some (.cells #[.int .i64 0,.int .i64 0,.int .i64 0,.int .i64 0,.int .i64 0] 55 (0,0)):=by rw[Below.heap_alloc _ _ _ (by omega),BH _ _ _ _ _ _ _ _ _ (by omega)];exact hr1
 have tA:ChTurn w ((W1.setChan g cap (buf.extract 1) false s (r+1) false).alloc (.cells #[.int .i64 0,.int .i64 0,.int .i64 0,.int .i64 0,.int .i64 0] 55 (0,0))) g (.chan cap (buf.extract 1) false s (r+1) false):=(ChTurn.first ht1 (by omega)).alloc _
 simp only[hn3];generalize (W1.setChan g cap (buf.extract 1) false s (r+1) false).alloc (.cells #[.int .i64 0,.int .i64 0,.int .i64 0,.int .i64 0,.int .i64 0] 55 (0,0))=A at *;have fA0:A.frozen? ⟨w.heap.size+2,0,none⟩=false:=frozen_of_row _ _ _ _ _ zA;have gA0:A.cell? ⟨w.heap.size+2,0,none⟩=some (.int .i64 0):=by simp only[World.cell?];rw[zA];rfl
 obtain⟨A1,hA1⟩:∃R,A.setCell ⟨w.heap.size+2,0,none⟩ (.int .i64 a0)=R:=⟨_,rfl⟩;have zA1:A1.heap[w.heap.size+2]?=some (.cells #[.int .i64 a0,.int .i64 0,.int .i64 0,.int .i64 0,.int .i64 0] 55 (0,0)):=by rw[<-hA1];exact heap_setCell_same _ _ _ _ _ _ zA
 have kA1:A1.heap[w.heap.size]?=some (.cells #[.int .i64 0,.int .i64 0,.int .i64 0,.int .i64 0,.int .i64 0] 55 (0,0)):=by rw[<-hA1,heap_setCell_other _ _ _ _ (by simp)];exact kA
 have tA1:ChTurn w A1 g (.chan cap (buf.extract 1) false s (r+1) false):=hA1▸tA.setCell _ _ _ (by omega) (by omega)
 have fA1:A1.frozen? ⟨w.heap.size+2,1,none⟩=false:=frozen_of_row _ _ _ _ _ zA1;have gA1:A1.cell? ⟨w.heap.size+2,1,none⟩=some (.int .i64 0):=by simp only[World.cell?];rw[zA1];rfl
 obtain⟨A2,hA2⟩:∃R,A1.setCell ⟨w.heap.size+2,1,none⟩ (.int .i64 a1)=R:=⟨_,rfl⟩;have zA2:A2.heap[w.heap.size+2]?=some (.cells #[.int .i64 a0,.int .i64 a1,.int .i64 0,.int .i64 0,.int .i64 0] 55 (0,0)):=by rw[<-hA2];exact heap_setCell_same _ _ _ _ _ _ zA1
 have kA2:A2.heap[w.heap.size]?=some (.cells #[.int .i64 0,.int .i64 0,.int .i64 0,.int .i64 0,.int .i64 0] 55 (0,0)):=by rw[<-hA2,heap_setCell_other _ _ _ _ (by simp)];exact kA1
 have tA2:ChTurn w A2 g (.chan cap (buf.extract 1) false s (r+1) false):=hA2▸tA1.setCell _ _ _ (by omega) (by omega)
 have fA2:A2.frozen? ⟨w.heap.size+2,2,none⟩=false:=frozen_of_row _ _ _ _ _ zA2;have gA2:A2.cell? ⟨w.heap.size+2,2,none⟩=some (.int .i64 0):=by simp only[World.cell?];rw[zA2];rfl
 obtain⟨A3,hA3⟩:∃R,A2.setCell ⟨w.heap.size+2,2,none⟩ (.int .i64 a2)=R:=⟨_,rfl⟩;have zA3:A3.heap[w.heap.size+2]?=some (.cells #[.int .i64 a0,.int .i64 a1,.int .i64 a2,.int .i64 0,.int .i64 0] 55 (0,0)):=by rw[<-hA3];exact heap_setCell_same _ _ _ _ _ _ zA2
 have kA3:A3.heap[w.heap.size]?=some (.cells #[.int .i64 0,.int .i64 0,.int .i64 0,.int .i64 0,.int .i64 0] 55 (0,0)):=by rw[<-hA3,heap_setCell_other _ _ _ _ (by simp)];exact kA2
 have tA3:ChTurn w A3 g (.chan cap (buf.extract 1) false s (r+1) false):=hA3▸tA2.setCell _ _ _ (by omega) (by omega)
 have fA3:A3.frozen? ⟨w.heap.size+2,3,none⟩=false:=frozen_of_row _ _ _ _ _ zA3;have gA3:A3.cell? ⟨w.heap.size+2,3,none⟩=some (.int .i64 0):=by simp only[World.cell?];rw[zA3];rfl
 obtain⟨A4,hA4⟩:∃R,A3.setCell ⟨w.heap.size+2,3,none⟩ (.int .i64 a3)=R:=⟨_,rfl⟩;have zA4:A4.heap[w.heap.size+2]?=some (.cells #[.int .i64 a0,.int .i64 a1,.int .i64 a2,.int .i64 a3,.int .i64 0] 55 (0,0)):=by rw[<-hA4];exact heap_setCell_same _ _ _ _ _ _ zA3
 have kA4:A4.heap[w.heap.size]?=some (.cells #[.int .i64 0,.int .i64 0,.int .i64 0,.int .i64 0,.int .i64 0] 55 (0,0)):=by rw[<-hA4,heap_setCell_other _ _ _ _ (by simp)];exact kA3
 have tA4:ChTurn w A4 g (.chan cap (buf.extract 1) false s (r+1) false):=hA4▸tA3.setCell _ _ _ (by omega) (by omega)
 have fA4:A4.frozen? ⟨w.heap.size+2,4,none⟩=false:=frozen_of_row _ _ _ _ _ zA4;have gA4:A4.cell? ⟨w.heap.size+2,4,none⟩=some (.int .i64 0):=by simp only[World.cell?];rw[zA4];rfl
 obtain⟨A5,hA5⟩:∃R,A4.setCell ⟨w.heap.size+2,4,none⟩ (.int .i64 a4)=R:=⟨_,rfl⟩;have zA5:A5.heap[w.heap.size+2]?=some (.cells #[.int .i64 a0,.int .i64 a1,.int .i64 a2,.int .i64 a3,.int .i64 a4] 55 (0,0)):=by rw[<-hA5];exact heap_setCell_same _ _ _ _ _ _ zA4
 have kA5:A5.heap[w.heap.size]?=some (.cells #[.int .i64 0,.int .i64 0,.int .i64 0,.int .i64 0,.int .i64 0] 55 (0,0)):=by rw[<-hA5,heap_setCell_other _ _ _ _ (by simp)];exact kA4
 have tA5:ChTurn w A5 g (.chan cap (buf.extract 1) false s (r+1) false):=hA5▸tA4.setCell _ _ _ (by omega) (by omega)
 s_op
 s_c stepG_region_end
 s_c stepG_seq
 s_reg
 have l0:A5.cell? ⟨w.heap.size+2,0,none⟩=some (.int .i64 a0):=by simp only[World.cell?];rw[zA5];rfl
 have l1:A5.cell? ⟨w.heap.size+2,1,none⟩=some (.int .i64 a1):=by simp only[World.cell?];rw[zA5];rfl
 have l2:A5.cell? ⟨w.heap.size+2,2,none⟩=some (.int .i64 a2):=by simp only[World.cell?];rw[zA5];rfl
 have l3:A5.cell? ⟨w.heap.size+2,3,none⟩=some (.int .i64 a3):=by simp only[World.cell?];rw[zA5];rfl
 have l4:A5.cell? ⟨w.heap.size+2,4,none⟩=some (.int .i64 a4):=by simp only[World.cell?];rw[zA5];rfl
 have fB0:A5.frozen? ⟨w.heap.size,0,none⟩=false:=frozen_of_row _ _ _ _ _ kA5;have gB0:A5.cell? ⟨w.heap.size,0,none⟩=some (.int .i64 0):=by simp only[World.cell?];rw[kA5];rfl
 obtain⟨B1,hB1⟩:∃R,A5.setCell ⟨w.heap.size,0,none⟩ (.int .i64 a0)=R:=⟨_,rfl⟩;have zB1:B1.heap[w.heap.size]?=some (.cells #[.int .i64 a0,.int .i64 0,.int .i64 0,.int .i64 0,.int .i64 0] 55 (0,0)):=by rw[<-hB1];exact heap_setCell_same _ _ _ _ _ _ kA5
 have tB1:ChTurn w B1 g (.chan cap (buf.extract 1) false s (r+1) false):=hB1▸tA5.setCell _ _ _ (by omega) (by omega)
 have fB1:B1.frozen? ⟨w.heap.size,1,none⟩=false:=frozen_of_row _ _ _ _ _ zB1;have gB1:B1.cell? ⟨w.heap.size,1,none⟩=some (.int .i64 0):=by simp only[World.cell?];rw[zB1];rfl
 obtain⟨B2,hB2⟩:∃R,B1.setCell ⟨w.heap.size,1,none⟩ (.int .i64 a1)=R:=⟨_,rfl⟩;have zB2:B2.heap[w.heap.size]?=some (.cells #[.int .i64 a0,.int .i64 a1,.int .i64 0,.int .i64 0,.int .i64 0] 55 (0,0)):=by rw[<-hB2];exact heap_setCell_same _ _ _ _ _ _ zB1
 have tB2:ChTurn w B2 g (.chan cap (buf.extract 1) false s (r+1) false):=hB2▸tB1.setCell _ _ _ (by omega) (by omega)
 have fB2:B2.frozen? ⟨w.heap.size,2,none⟩=false:=frozen_of_row _ _ _ _ _ zB2;have gB2:B2.cell? ⟨w.heap.size,2,none⟩=some (.int .i64 0):=by simp only[World.cell?];rw[zB2];rfl
 obtain⟨B3,hB3⟩:∃R,B2.setCell ⟨w.heap.size,2,none⟩ (.int .i64 a2)=R:=⟨_,rfl⟩;have zB3:B3.heap[w.heap.size]?=some (.cells #[.int .i64 a0,.int .i64 a1,.int .i64 a2,.int .i64 0,.int .i64 0] 55 (0,0)):=by rw[<-hB3];exact heap_setCell_same _ _ _ _ _ _ zB2
 have tB3:ChTurn w B3 g (.chan cap (buf.extract 1) false s (r+1) false):=hB3▸tB2.setCell _ _ _ (by omega) (by omega)
 have fB3:B3.frozen? ⟨w.heap.size,3,none⟩=false:=frozen_of_row _ _ _ _ _ zB3;have gB3:B3.cell? ⟨w.heap.size,3,none⟩=some (.int .i64 0):=by simp only[World.cell?];rw[zB3];rfl
 obtain⟨B4,hB4⟩:∃R,B3.setCell ⟨w.heap.size,3,none⟩ (.int .i64 a3)=R:=⟨_,rfl⟩;have zB4:B4.heap[w.heap.size]?=some (.cells #[.int .i64 a0,.int .i64 a1,.int .i64 a2,.int .i64 a3,.int .i64 0] 55 (0,0)):=by rw[<-hB4];exact heap_setCell_same _ _ _ _ _ _ zB3
 have tB4:ChTurn w B4 g (.chan cap (buf.extract 1) false s (r+1) false):=hB4▸tB3.setCell _ _ _ (by omega) (by omega)
 have fB4:B4.frozen? ⟨w.heap.size,4,none⟩=false:=frozen_of_row _ _ _ _ _ zB4;have gB4:B4.cell? ⟨w.heap.size,4,none⟩=some (.int .i64 0):=by simp only[World.cell?];rw[zB4];rfl
 obtain⟨B5,hB5⟩:∃R,B4.setCell ⟨w.heap.size,4,none⟩ (.int .i64 a4)=R:=⟨_,rfl⟩;have zB5:B5.heap[w.heap.size]?=some (.cells #[.int .i64 a0,.int .i64 a1,.int .i64 a2,.int .i64 a3,.int .i64 a4] 55 (0,0)):=by rw[<-hB5];exact heap_setCell_same _ _ _ _ _ _ zB4
 have tB5:ChTurn w B5 g (.chan cap (buf.extract 1) false s (r+1) false):=hB5▸tB4.setCell _ _ _ (by omega) (by omega)
 have hlv:=run_loadVar_row (P:=Tryz.prog) B5 w.heap.size 55 55 _ _ _ zB5 Tryz.underlying55 rfl (by kernel_rfl)
 s_op
 s_op
 s_op
 s_c stepG_region_end
 s_c stepG_ret'
 s_stop
 refine LoneTo.done ⟨.returned (.tuple #[.agg #[.int .i64 a0,.int .i64 a1,.int .i64 a2,.int .i64 a3,.int .i64 a4],.bool true]),_,rfl,⟨rfl,tB5⟩,rfl,rfl,rfl,rfl,_,Tryz.func90,by simp[results,Tryz.f90,Frame.at,asAddr,hlv]⟩
set_option maxRecDepth 100000 in
set_option maxHeartbeats 4000000 in
theorem DI{w:World}{blk g cap s r:Nat}(hc:w.cell? ⟨blk,0,none⟩=some (.chan (some g)))(hg:w.heap[g]?=some (.chan cap #[] false s r false))  :
  Calls Tryz.prog 90 #[.pointer (some ⟨blk,0,none⟩)] w fun e w'=>e=.returned (.tuple #[.agg #[.int .i64 0,.int .i64 0,.int .i64 0,.int .i64 0,.int .i64 0],.bool false])/\ChTurn w w' g (.chan cap #[] false s r false):=by
 refine calls_of_loneTo fun cs=>?_
 have e:Frame.enter Tryz.prog 90 #[.pointer (some ⟨blk,0,none⟩)] .normal=(base 90).at ⟨#[.pointer (some ⟨blk,0,none⟩),undef,undef,undef,undef,undef,undef,undef,undef,undef,undef,undef,undef,undef],[]⟩ [.code (Tryz.f90.body.getD .skip)]:=by
  simp[Frame.enter,Frame.at,Tryz.func90,base,Tryz.f90]
 rw[e];refine LoneTo.goes (n:=60) ?_;simp only[Tryz.f90,Option.getD_some]
 s_c stepG_seq
 s_reg
 s_op
 s_op
 s_c stepG_region_end
 s_c stepG_seq
 s_reg
 s_op
 have hb0:blk<w.heap.size:=World.block_lt_of_cell? _ _ hc;have hg0:g<w.heap.size:=(Array.getElem?_eq_some_iff.1 hg).1;have hc1:((w.alloc (.cells #[.int .i64 0,.int .i64 0,.int .i64 0,.int .i64 0,.int .i64 0] 55 (0,0))).alloc (.cells #[.int .i64 0,.int .i64 0,.int .i64 0,.int .i64 0,.int .i64 0] 55 (0,0))).cell? ⟨blk,0,none⟩=some (.chan (some g)):=by rw[World.cell?_alloc_lt _ _ _ (by simp;omega),World.cell?_alloc_lt _ _ _ hb0];exact hc
 have hg1:((w.alloc (.cells #[.int .i64 0,.int .i64 0,.int .i64 0,.int .i64 0,.int .i64 0] 55 (0,0))).alloc (.cells #[.int .i64 0,.int .i64 0,.int .i64 0,.int .i64 0,.int .i64 0] 55 (0,0))).heap[g]?=some (.chan cap #[] false s r false):=((Below.heap_alloc _ _ _ (by simp;omega)).trans (Below.heap_alloc _ _ _ hg0)).trans hg
 have hr1:((w.alloc (.cells #[.int .i64 0,.int .i64 0,.int .i64 0,.int .i64 0,.int .i64 0] 55 (0,0))).alloc (.cells #[.int .i64 0,.int .i64 0,.int .i64 0,.int .i64 0,.int .i64 0] 55 (0,0))).heap[w.heap.size]?=some (.cells #[.int .i64 0,.int .i64 0,.int .i64 0,.int .i64 0,.int .i64 0] 55 (0,0)):=(Below.heap_alloc _ _ _ (by simp)).trans (heap_alloc_new w _)
 have hz1:((w.alloc (.cells #[.int .i64 0,.int .i64 0,.int .i64 0,.int .i64 0,.int .i64 0] 55 (0,0))).alloc (.cells #[.int .i64 0,.int .i64 0,.int .i64 0,.int .i64 0,.int .i64 0] 55 (0,0))).heap[w.heap.size+1]?=some (.cells #[.int .i64 0,.int .i64 0,.int .i64 0,.int .i64 0,.int .i64 0] 55 (0,0)):=by have:=heap_alloc_new (w.alloc (.cells #[.int .i64 0,.int .i64 0,.int .i64 0,.int .i64 0,.int .i64 0] 55 (0,0))) (.cells #[.int .i64 0,.int .i64 0,.int .i64 0,.int .i64 0,.int .i64 0] 55 (0,0));simpa only [World.size_alloc] using this
 have hs1:((w.alloc (.cells #[.int .i64 0,.int .i64 0,.int .i64 0,.int .i64 0,.int .i64 0] 55 (0,0))).alloc (.cells #[.int .i64 0,.int .i64 0,.int .i64 0,.int .i64 0,.int .i64 0] 55 (0,0))).heap.size=w.heap.size+2:=by simp
 have ht1:ChTurn w ((w.alloc (.cells #[.int .i64 0,.int .i64 0,.int .i64 0,.int .i64 0,.int .i64 0] 55 (0,0))).alloc (.cells #[.int .i64 0,.int .i64 0,.int .i64 0,.int .i64 0,.int .i64 0] 55 (0,0))) g (.chan cap #[] false s r false):=⟨rfl,rfl,rfl,by simp;omega,hg1,fun k hk _=>(Below.heap_alloc _ _ _ (by simp;omega)).trans (Below.heap_alloc _ _ _ hk)⟩
 generalize (w.alloc (.cells #[.int .i64 0,.int .i64 0,.int .i64 0,.int .i64 0,.int .i64 0] 55 (0,0))).alloc (.cells #[.int .i64 0,.int .i64 0,.int .i64 0,.int .i64 0,.int .i64 0] 55 (0,0))=W1 at *
 s_c stepG_region_end
 s_c stepG_seq
 s_reg
 s_op
 s_call Tryz.func92 (by kernel_rfl) Tryz.f92
 s_c stepG_seq
 s_reg
 s_op
 s_c stepG_region_end
 s_c stepG_seq
 s_c stepG_seq
 s_reg
 s_op
 s_op
 s_c stepG_region_end
 s_cond false
 s_c stepG_skip
 s_c stepG_seq
 s_reg
 s_op
 s_op
 s_op
 s_op
 s_op
 s_c stepG_region_end
 s_c stepG_ret'
 s_leave1 Tryz.func92
 s_c stepG_region_end
 s_c stepG_seq
 s_reg
 s_stop
 refine LoneTo.step (step_lone_select_default (c:=g) (z:=.agg #[.int .i64 0,.int .i64 0,.int .i64 0,.int .i64 0,.int .i64 0]) (cap:=cap) (s:=s) (r:=r) (tm:=false) (stepG_comm (cases := #[rcase g (.agg #[.int .i64 0,.int .i64 0,.int .i64 0,.int .i64 0,.int .i64 0])]) (blocking:=false) (shape:=.select) (w':=W1) rfl rfl (by decide) (by simp[go_sem,execOp,rcase,Act.eval])) hg1) ?_
 rw[Frame.finish_at]
 walk_nrm
 refine LoneTo.goes (n:=40) ?_
 s_op
 s_op
 s_c stepG_region_end
 s_c stepG_block
 s_cond false
 s_c stepG_seq
 s_reg
 have l0:W1.cell? ⟨w.heap.size+1,0,none⟩=some (.int .i64 0):=by simp only[World.cell?];rw[hz1];rfl
 have l1:W1.cell? ⟨w.heap.size+1,1,none⟩=some (.int .i64 0):=by simp only[World.cell?];rw[hz1];rfl
 have l2:W1.cell? ⟨w.heap.size+1,2,none⟩=some (.int .i64 0):=by simp only[World.cell?];rw[hz1];rfl
 have l3:W1.cell? ⟨w.heap.size+1,3,none⟩=some (.int .i64 0):=by simp only[World.cell?];rw[hz1];rfl
 have l4:W1.cell? ⟨w.heap.size+1,4,none⟩=some (.int .i64 0):=by simp only[World.cell?];rw[hz1];rfl
 have fB0:W1.frozen? ⟨w.heap.size,0,none⟩=false:=frozen_of_row _ _ _ _ _ hr1;have gB0:W1.cell? ⟨w.heap.size,0,none⟩=some (.int .i64 0):=by simp only[World.cell?];rw[hr1];rfl
 obtain⟨B1,hB1⟩:∃R,W1.setCell ⟨w.heap.size,0,none⟩ (.int .i64 0)=R:=⟨_,rfl⟩;have zB1:B1.heap[w.heap.size]?=some (.cells #[.int .i64 0,.int .i64 0,.int .i64 0,.int .i64 0,.int .i64 0] 55 (0,0)):=by rw[<-hB1];exact heap_setCell_same _ _ _ _ _ _ hr1
 have tB1:ChTurn w B1 g (.chan cap #[] false s r false):=hB1▸ht1.setCell _ _ _ (by omega) (by omega)
 have fB1:B1.frozen? ⟨w.heap.size,1,none⟩=false:=frozen_of_row _ _ _ _ _ zB1;have gB1:B1.cell? ⟨w.heap.size,1,none⟩=some (.int .i64 0):=by simp only[World.cell?];rw[zB1];rfl
 obtain⟨B2,hB2⟩:∃R,B1.setCell ⟨w.heap.size,1,none⟩ (.int .i64 0)=R:=⟨_,rfl⟩;have zB2:B2.heap[w.heap.size]?=some (.cells #[.int .i64 0,.int .i64 0,.int .i64 0,.int .i64 0,.int .i64 0] 55 (0,0)):=by rw[<-hB2];exact heap_setCell_same _ _ _ _ _ _ zB1
 have tB2:ChTurn w B2 g (.chan cap #[] false s r false):=hB2▸tB1.setCell _ _ _ (by omega) (by omega)
 have fB2:B2.frozen? ⟨w.heap.size,2,none⟩=false:=frozen_of_row _ _ _ _ _ zB2;have gB2:B2.cell? ⟨w.heap.size,2,none⟩=some (.int .i64 0):=by simp only[World.cell?];rw[zB2];rfl
 obtain⟨B3,hB3⟩:∃R,B2.setCell ⟨w.heap.size,2,none⟩ (.int .i64 0)=R:=⟨_,rfl⟩;have zB3:B3.heap[w.heap.size]?=some (.cells #[.int .i64 0,.int .i64 0,.int .i64 0,.int .i64 0,.int .i64 0] 55 (0,0)):=by rw[<-hB3];exact heap_setCell_same _ _ _ _ _ _ zB2
 have tB3:ChTurn w B3 g (.chan cap #[] false s r false):=hB3▸tB2.setCell _ _ _ (by omega) (by omega)
 have fB3:B3.frozen? ⟨w.heap.size,3,none⟩=false:=frozen_of_row _ _ _ _ _ zB3;have gB3:B3.cell? ⟨w.heap.size,3,none⟩=some (.int .i64 0):=by simp only[World.cell?];rw[zB3];rfl
 obtain⟨B4,hB4⟩:∃R,B3.setCell ⟨w.heap.size,3,none⟩ (.int .i64 0)=R:=⟨_,rfl⟩;have zB4:B4.heap[w.heap.size]?=some (.cells #[.int .i64 0,.int .i64 0,.int .i64 0,.int .i64 0,.int .i64 0] 55 (0,0)):=by rw[<-hB4];exact heap_setCell_same _ _ _ _ _ _ zB3
 have tB4:ChTurn w B4 g (.chan cap #[] false s r false):=hB4▸tB3.setCell _ _ _ (by omega) (by omega)
 have fB4:B4.frozen? ⟨w.heap.size,4,none⟩=false:=frozen_of_row _ _ _ _ _ zB4;have gB4:B4.cell? ⟨w.heap.size,4,none⟩=some (.int .i64 0):=by simp only[World.cell?];rw[zB4];rfl
 obtain⟨B5,hB5⟩:∃R,B4.setCell ⟨w.heap.size,4,none⟩ (.int .i64 0)=R:=⟨_,rfl⟩;have zB5:B5.heap[w.heap.size]?=some (.cells #[.int .i64 0,.int .i64 0,.int .i64 0,.int .i64 0,.int .i64 0] 55 (0,0)):=by rw[<-hB5];exact heap_setCell_same _ _ _ _ _ _ zB4
 have tB5:ChTurn w B5 g (.chan cap #[] false s r false):=hB5▸tB4.setCell _ _ _ (by omega) (by omega)
 have hlv:=run_loadVar_row (P:=Tryz.prog) B5 w.heap.size 55 55 _ _ _ zB5 Tryz.underlying55 rfl (by kernel_rfl)
 s_op
 s_op
 s_op
 s_c stepG_region_end
 s_c stepG_ret'
 s_stop
 refine LoneTo.done ⟨.returned (.tuple #[.agg #[.int .i64 0,.int .i64 0,.int .i64 0,.int .i64 0,.int .i64 0],.bool false]),_,rfl,⟨rfl,tB5⟩,rfl,rfl,rfl,rfl,_,Tryz.func90,by simp[results,Tryz.f90,Frame.at,asAddr,hlv]⟩
end Go.Proofs.YtnjphclbpgajpaaGreatDoor.Vc
