/- The law FixTwice: called with any arguments it returns true, and each argument reads afterwards as it read before. No condition. -/
import Derived.Test.YtlomecfhobehnaaGreatDoorRows
import Derived.ChangeSame
import Derived.ChangeVars
import Derived.JoinedOf
import Derived.RowKitTokens
import Derived.LaidLaws
import Derived.LaidHandle
import Derived.Stop.Joined
import Derived.SevenTiedAt
import Derived.LaidSub
import Derived.ProofKit
import Derived.OpenShut
import Derived.SliceStrings
import Derived.Test.YtlomecfhobehnaaGreatDoorCards
import Derived.Test.YtlomecfhobehnaaGreatDoorTie
import Derived.ShutString
import Derived.SizedLaws
import Derived.ChangeOld
import Derived.Test.YtlomecfhobehnaaGreatDoorMgFixTwice0
import Derived.Test.YtlomecfhobehnaaGreatDoorMgFixTwice5
import Derived.Test.YtlomecfhobehnaaGreatDoorMgFixTwice47
set_option linter.unusedVariables false
set_option linter.unusedSimpArgs false
namespace Go.Proofs.YtlomecfhobehnaaGreatDoor
open Lib (hid)
section
set_option maxRecDepth 100000
open Go.ChangeShapes Go.WideShapes Go.ChangeAt Go.RowKit
namespace ExprLaid
theorem gm:Tryz.prog.globalNamed "escritoire/lex.marks"=some 1:=by kernel_rfl
theorem gt:(Tryz.prog.globals[1]?).map (·.type)=some 225:=by kernel_rfl
theorem gl:Tryz.prog.globalNamed "escritoire/expr.levels"=some 2:=by kernel_rfl
theorem glt:(Tryz.prog.globals[2]?).map (·.type)=some 237:=by kernel_rfl
theorem cs1:Tryz.prog.cellsOf 9=1:=by kernel_rfl
theorem GA:Tryz.prog.cellsOf 225=18:=by kernel_rfl
theorem GB:Tryz.prog.cellsOf 105=1:=by kernel_rfl
theorem cs3:Tryz.prog.cellsOf 237=3:=by kernel_rfl
theorem et:Tryz.prog.globalNamed "errors.errorType"=some 0:=by kernel_rfl
theorem rt:(Tryz.prog.cutTypes.find? (·.1== "internal/reflectlite.rtype")).map (·.2)=some 175:=by kernel_rfl
theorem F7:((List.range 268).filter fun t=>Tryz.prog.rowNamed t [101,114,114,111,114])=[30]:=by kernel_rfl
theorem size:Tryz.prog.types.size=268:=by kernel_rfl
def laid:List (String×DataW Unit):=[("errors.errorType",Rows.laid_errors_errorType),("escritoire/lex.marks",Rows.laid_escritoire_lex_marks),("escritoire/expr.levels",Rows.laid_escritoire_expr_levels)]
theorem jy{W:World}(h:laidMetH Tryz.prog laid W):eK W:=by
 have h':=(laidMetH_iff.1 h).2
 obtain⟨name,u,ty,e1,e2,e3,e4,e5⟩:=h' ("errors.errorType",Rows.laid_errors_errorType) (by simp[laid,Rows.laid_errors_errorType,DataW.handleName?])
 have en:name=[101,114,114,111,114]:=(Option.some.inj e1).symm
 subst en
 obtain rfl:=Option.some.inj (rt.symm.trans e2)
 have hm:ty∈(List.range 268).filter fun t=>Tryz.prog.rowNamed t [101,114,114,111,114]:=List.mem_filter.2 ⟨List.mem_range.2 (by rw[← size];exact e3),e4⟩
 rw[F7]at hm
 obtain rfl:=List.mem_singleton.1 hm
 have hh:typeHandle Tryz.prog 30=hdl 30:=by kernel_rfl
 rw[hh]at e5
 simpa[eK]using World.var?_cell et e5 0
theorem DE{α β:Type}{f:α→Option β}:∀{l:List α} {r:List β},l.mapM f=some r→∀(i:Nat) (h:i < l.length),∃y,r[i]? =some y∧f l[i]=some y:=by
 intro l
 induction l with
 |nil=>intro r _ i h;cases h
 |cons x xs ih=>
  intro r h i hi
  simp only[List.mapM_cons,Option.bind_eq_bind,Option.bind_eq_some_iff,Option.pure_def,Option.some.injEq]at h
  obtain⟨y,h1,ys,h2,rfl⟩:=h
  cases i with
  |zero=>exact⟨y,rfl,h1⟩
  |succ i=>exact ih h2 i (by simpa using hi)
theorem wm{H:Type}{enc:TypeId×Value→H}{W:World}{base:Nat}{sp:Nat→Bool}{held:Bool}{n:Nat}{c:Value}{bs:List UInt8}{ps:List MemPlace}
  (h:DataW.trod enc Tryz.prog W base sp held n 9 [c]=some (.lit (.string bs),ps)):c= .string (aa bs):=by
 cases n with
 |zero=>simp[DataW.trod]at h
 |succ n=>
  rw[DataW.trod_step]at h
  unfold DataW.trodStep at h
  rw[Tryz.underlying9]at h
  cases c with
  |string s=>
   simp only at h
   split at h
   ·simp only[Option.some.injEq,Prod.mk.injEq,DataW.lit.injEq,Lit.string.injEq]at h
    rw[← h.1]
    exact congrArg _ (jz s)
   ·cases h
  |_=>cases h
theorem lX{H:Type}{enc:TypeId×Value→H}{W:World}{base:Nat}{sp:Nat→Bool}{held:Bool}{n:Nat}{t e:TypeId}{m:Nat}{l:List Value}{ds:List (DataW H)}{ps:List MemPlace}
  (ht:Tryz.prog.underlying t=some (.array m e))(hc:Tryz.prog.cellsOf e=1)(hm:Tryz.prog.cellsOf t=m)(h:DataW.trod enc Tryz.prog W base sp held n t l=some (.agg ds,ps))(j:Nat)(hj:j < m):
  ∃k d qs,l[j]? =some k∧ds[j]? =some d∧∃n',DataW.trod enc Tryz.prog W base sp held n' e [k]=some (d,qs):=by
 cases n with
 |zero=>simp[DataW.trod]at h
 |succ n=>
  rw[DataW.trod_step]at h
  unfold DataW.trodStep at h
  rw[ht]at h
  simp only[hc,hm]at h
  split at h
  ·rename_i hl
   simp only[Option.map_eq_some_iff]at h
   obtain⟨xs,hm,hx⟩:=h
   obtain⟨y,hy,hf⟩:=DE hm j (by simpa using hj)
   simp only[Prod.mk.injEq,DataW.agg.injEq]at hx
   simp only[Nat.mul_one,List.getElem_range]at hf
   have hjl:j < l.length:=by
    have h0:l.length=m:=hl
    omega
   have e3:(l.drop j).take 1=[l[j]]:=by
    rw[List.drop_eq_getElem_cons hjl];rfl
   rw[e3]at hf
   obtain⟨y1,y2⟩:=y
   refine⟨l[j],y1,y2,Y1 hjl,?_,_,hf⟩
   rw[← hx.1,List.getElem?_map,hy];rfl
  ·cases h
theorem qL{W:World}(h:laidMetH Tryz.prog laid W):dV W:=by
 have h':laidMet Tryz.prog [("escritoire/lex.marks",Rows.laid_escritoire_lex_marks),("escritoire/expr.levels",Rows.laid_escritoire_expr_levels)] W:=(laidMetH_iff.1 h).1
 obtain⟨ps,⟨g,t,cs,fuel,p,q,hg,ht,hvar,hd,_,_⟩,_⟩:=h'
 obtain rfl:=Option.some.inj (gm.symm.trans hg)
 obtain rfl:=Option.some.inj (gt.symm.trans ht)
 intro j hj
 obtain⟨l⟩:=cs
 rw[World.var?_cell hg hvar j]
 obtain⟨k,d,qs,e1,e2,n',e3⟩:=lX (m:=18) Tryz.underlying225 cs1 GA hd j hj
 have hd2:((Lex.marks.map fun m=>(DataW.lit (.string m):DataW Unit))[j]?)=some d:=e2
 rw[List.getElem?_map]at hd2
 have e4:Lex.marks[j]? =some (Lex.marks.getD j []):=by
  rw[List.getD_eq_getElem?_getD,Y1 (by exact hj)];rfl
 rw[e4]at hd2
 have hd3:=Option.some.inj hd2
 subst hd3
 have:=wm e3
 subst this
 simpa using e1
theorem E6{H:Type}{enc:TypeId×Value→H}{W:World}{base:Nat}{sp:Nat→Bool}{held:Bool}{n:Nat}{v:Value}{L:List (List UInt8)}{ps:List MemPlace}(hL:L≠[])
  (h:DataW.trod enc Tryz.prog W base sp held n 105 [v]=some (.slice (L.map fun s=> .lit (.string s)) [],ps)):∃(a:Addr) (cap:Nat),v= .slice (some a) L.length cap∧a.block < W.heap.size∧∀j,j < L.length→W.cell? (a.add j)=some (.string (aa (L.getD j []))):=by
 rcases open_strings Tryz.underlying105 Tryz.underlying9 cs1 h with⟨_,h2⟩|⟨a,len,cap,ss,h1,_,hlc,_,hss,hx,hcell,_⟩
 ·cases h2
 ·obtain rfl:=List.cons.inj h1 |>.1
  simp only[Prod.mk.injEq,DataW.slice.injEq]at hx
  have hx1:(L.map fun s=>(DataW.lit (.string s):DataW H))=strs (ss.take len):=hx.1.1
  have hlen:L.length=(ss.take len).length:=by
   have:=congrArg List.length hx1
   simpa[strs]using this
  have hls:len≤ss.length:=by rw[hss];split <;> omega
  have hl2:L.length=len:=by rw[hlen,List.length_take];omega
  have hget:∀j,j < L.length→ss.getD j ByteArray.empty=aa (L.getD j []):=by
   intro j hj
   have e1:(L.map fun s=>(DataW.lit (.string s):DataW H))[j]? =(strs (ss.take len))[j]? :=by rw[hx1]
   have hjs:j < ss.length:=by omega
   rw[List.getElem?_map,Y1 hj,strs,List.getElem?_map,List.getElem?_take_of_lt (by omega),Y1 hjs]at e1
   simp only[Option.map_some,Option.some.injEq,DataW.lit.injEq,Lit.string.injEq]at e1
   rw[List.getD_eq_getElem?_getD,Y1 hjs,List.getD_eq_getElem?_getD,Y1 hj]
   simp only[Option.getD_some]
   rw[e1]
   exact jz _
  have hc:∀j,j < L.length→W.cell? (a.add j)=some (.string (aa (L.getD j []))):=fun j hj=>by
   rw[hcell j (by omega),hget j hj]
  have hpos:0 < L.length:=List.length_pos_iff.2 hL
  refine⟨a,cap,by rw[hl2],?_,hc⟩
  have:=World.block_lt_of_cell? W _ (hc 0 hpos)
  rwa[Addr.dz]at this
theorem qm{W:World}(h:laidMetH Tryz.prog laid W):Rd.cT W W.heap.size:=by
 have h':laidMet Tryz.prog [("escritoire/lex.marks",Rows.laid_escritoire_lex_marks),("escritoire/expr.levels",Rows.laid_escritoire_expr_levels)] W:=(laidMetH_iff.1 h).1
 obtain⟨ps,⟨g,t,cs,fuel,p,q,hg,ht,hvar,hd,hrest,_⟩,_⟩:=h'
 obtain⟨g2,t2,cs2,fuel2,p2,q2,hg2,ht2,hvar2,hd2,_,_⟩:=hrest
 obtain rfl:=Option.some.inj (gl.symm.trans hg2)
 obtain rfl:=Option.some.inj (glt.symm.trans ht2)
 obtain⟨l⟩:=cs2
 have key:∀k,k < 3→∃(a:Addr) (cap:Nat),W.cell? ⟨2,k,none⟩=some (.slice (some a) (Ex.levels k).length cap)∧a.block < W.heap.size∧∀j,j < (Ex.levels k).length→W.cell? (a.add j)=some (.string (aa ((Ex.levels k).getD j []))):=by
  intro k hk
  obtain⟨v,d,qs,e1,e2,n',e3⟩:=lX (m:=3) Tryz.underlying237 GB cs3 hd2 k hk
  have hd3:d= .slice ((Ex.levels k).map fun s=> .lit (.string s)) []:=by
   rcases(by omega:k=0∨k=1∨k=2)with rfl|rfl|rfl
   ·exact(Option.some.inj e2).symm
   ·exact(Option.some.inj e2).symm
   ·exact(Option.some.inj e2).symm
  rw[hd3]at e3
  have hne:Ex.levels k≠[]:=by
   rcases(by omega:k=0∨k=1∨k=2)with rfl|rfl|rfl <;> simp[Ex.levels]
  obtain⟨a,cap,rfl,hb,hc⟩:=E6 hne e3
  refine⟨a,cap,?_,hb,hc⟩
  rw[World.var?_cell hg2 hvar2 k]
  simpa using e1
 obtain⟨a,cap,hc0,_⟩:=key 0 (by omega)
 exact⟨World.block_lt_of_cell? W _ hc0,key⟩
theorem lY{W:World}(h:laidMetH Tryz.prog laid W):jY W:=
 ⟨⟨qm h,jy h,(jy h).lt⟩,qL h⟩
theorem nI{H:Type}{enc:TypeId×Value→H}{C:Checked}{os:Os}{f:FuncId}{fn:Func}{s:ChangeSpec}{conds:List PathCond}{apart:Bool}{X:World→Array Value→Prop}(w0:World)(args:Array Value)(fuel:Nat)(hos:w0.os=os)
  (hv:(w0.forCall (fun _ _=>0) ⟨#[],args,[]⟩).variablesRefB C.prog=true)
  (hr:((w0.forCall (fun _ _=>0) ⟨#[],args,[]⟩).heap.toList.drop C.prog.globals.size).take ((begin C.prog (fun _ _=>0) default).world.heap.size - C.prog.globals.size)=(begin C.prog (fun _ _=>0) default).world.heap.toList.drop C.prog.globals.size)
  (hok:Input.okWideB C.prog (w0.forCall (fun _ _=>0) ⟨#[],args,[]⟩) f ⟨#[],args,[]⟩=true)
  (hpre:s.preB enc C.prog fn conds apart (w0.forCall (fun _ _=>0) ⟨#[],args,[]⟩).memory args fuel=true)
  (hsz:s.sizedB enc C.prog fn apart (w0.forCall (fun _ _=>0) ⟨#[],args,[]⟩).memory args fuel=true)
  (hx:X (w0.forCall (fun _ _=>0) ⟨#[],args,[]⟩).memory args):
  ∃(w:World) (tape:Tape) (i:Input),w.os=os∧(w.forCall tape i).Shaped C.prog∧i.vars=[]∧Input.okWide C.prog (w.forCall tape i) .any w.heap.size f i∧
   ((s.pre enc C.prog fn conds apart (w.forCall tape i).memory i.args∧X (w.forCall tape i).memory i.args)∧sizedMet enc C.prog fn (OpenSpec.ofChange s) apart (w.forCall tape i).memory i.args)∧({modest:=false}:Assume).holds C.prog (lone (Frame.enter C.prog f i.args .normal) [] (w.forCall tape i)):=
 ⟨w0,fun _ _=>0,⟨#[],args,[]⟩,hos,World.shaped_of_RefB hv hr,(Input.okWide_of_okWideB (base:=0) hok).1,(Input.okWide_of_okWideB hok).2,⟨⟨ChangeSpec.pre_of_preB hpre,hx⟩,sizedMet_of_sizedB hsz⟩,by
  simp only[Assume.holds]
  exact⟨by simp,by simp,fun h=>by simp at h,by simp,by simp⟩⟩
noncomputable def mZ(os:Os):World:=
 let w0:=World.holding Tryz.prog os ⟨#[],#[],[]⟩
 let put (h:Array Obj) (g:Nat) (cs:Array Value):Array Obj:=h.modify g fun
  | .cells _ t frozen=> .cells cs t frozen
  |o=>o
 let n:=w0.heap.size
 let h1:=put w0.heap 1 sk
 let h2:=put h1 0 #[.iface 175 (.agg #[hdl 30])]
 let h3:=put h2 2 #[.slice (some ⟨n,0,none⟩) 4 4,.slice (some ⟨n+1,0,none⟩) 3 3,.slice (some ⟨n+2,0,none⟩) 2 2]
 let h4:=h3.push (.cells #[.string (aa [61,61]),.string (aa [33,61]),.string (aa [60]),.string (aa [62])] 9 (0,0))
 let h5:=h4.push (.cells #[.string (aa [43]),.string (aa [45]),.string (aa [124])] 9 (0,0))
 let h6:=h5.push (.cells #[.string (aa [42]),.string (aa [38])] 9 (0,0))
 {w0 with heap:=h6}
theorem kr(os:Os)(args:Array Value):laidMetH Tryz.prog laid ((mZ os).forCall (fun _ _=>0) ⟨#[],args,[]⟩).memory:=
 laidMetH_of_parts (laidMet_of_run' 8 (by kernel_rfl) (by kernel_rfl)) (by kernel_rfl)
end ExprLaid
end
section
set_option maxRecDepth 100000
open Go.ChangeShapes Go.WideShapes Go.ChangeAt Go.RowKit
open Go.ChangeMaps (open_string shut_string)
namespace FixTwiceProof
theorem own:ownKnob Tryz.prog.godebug=none:=by kernel_rfl
theorem laidOut:laidOutB Tryz.prog=true:=by kernel_rfl
open ExprLaid (mZ kr lY nI)
theorem lifted(os:Os)(started:os.Started)(H:Type)(enc:TypeId×Value→H):
  ReturnsInHanded {} Tryz.checked os 4 .any (fun w args=>(Rows.fixTwiceSpec.pre enc Tryz.prog Tryz.f4 [] false w args∧laidMetH Tryz.prog Rows.fixTwiceRow.laid w)∧sizedMet enc Tryz.prog Tryz.f4 (OpenSpec.ofChange Rows.fixTwiceSpec) false w args)
   (Rows.fixTwiceSpec.post enc Tryz.prog Tryz.f4 false true false false):=by
 refine returnsInHanded_of_change_and (C:=Tryz.checked) (X:=fun w _=>laidMetH Tryz.prog Rows.fixTwiceRow.laid w) (fun _ _ _ hh h=>h.of_heap hh) own started (by kernel_rfl) Tryz.func4
  (nI (enc:=enc) (C:=Tryz.checked) (os:=os) (X:=fun w _=>laidMetH Tryz.prog Rows.fixTwiceRow.laid w) (mZ os) #[.string ByteArray.empty,.string ByteArray.empty,.string ByteArray.empty] 8 rfl (by kernel_rfl) (by kernel_rfl) (by kernel_rfl) (by kernel_rfl) (by kernel_rfl) (kr os _)) ?_
 intro W base args ds gs before hval0 hW hcnd hsz0 hL _
 have hval:∀(j:Nat) t v,Tryz.f4.params[j]? =some t→args[j]? =some v→Value.okWide Tryz.prog W .any base t v:=hval0
 have hsz:(DataW.weightsEach Tryz.prog (Tryz.f4.params.toList++Rows.fixTwiceSpec.plain.varTypes Tryz.prog) (ds++gs)).all (· ≤reachBytes)=true:=hsz0
 have hW':=hW
 obtain⟨p,q,hA0,hV,rfl,hfz,hnd⟩:=hW
 have hA:DataW.TrodAll enc Tryz.prog W 0 (fun _=>true) true Tryz.f4.params.toList args.toList ds p:=hA0
 rw[Tryz.params4]at hA hval hsz
 obtain⟨v0,vs0,d0,ds0,p0,q0,hargs,rfl,rfl,h0,r0⟩:=trodAll_cons hA
 obtain⟨v1,vs1,d1,ds1,p1,q1,rfl,rfl,rfl,h1,r1⟩:=trodAll_cons r0
 obtain⟨v2,vs2,d2,ds2,p2,q2,rfl,rfl,rfl,h2,r2⟩:=trodAll_cons r1
 obtain⟨rfl,rfl,rfl⟩:=trodAll_nil r2
 obtain rfl:args= #[v0,v1,v2]:=by cases args;simp_all
 have hg:jY W:=lY hL
 obtain⟨rfl,rfl⟩:=trodVars_none hV
 obtain⟨a0,rfl,rfl,rfl,w0⟩:=open_string Tryz.underlying9 (hval 0 9 v0 rfl rfl) h0
 have s0:a0.size≤140737488351232:=by have:=sized_string hsz (j:=0) rfl rfl;rw[gp]at this;simpa[reachBytes]using this
 obtain⟨a1,rfl,rfl,rfl,w1⟩:=open_string Tryz.underlying9 (hval 1 9 v1 rfl rfl) h1
 have s1:a1.size≤140737488351232:=by have:=sized_string hsz (j:=1) rfl rfl;rw[gp]at this;simpa[reachBytes]using this
 obtain⟨a2,rfl,rfl,rfl,w2⟩:=open_string Tryz.underlying9 (hval 2 9 v2 rfl rfl) h2
 have s2:a2.size≤140737488351232:=by have:=sized_string hsz (j:=2) rfl rfl;rw[gp]at this;simpa[reachBytes]using this
 clear hA0 hval0
 simp only[List.append_nil]at hW'
 refine(qK a0 a1 a2 s0 s1 s2 W hg).mono fun e W' ⟨he,bel⟩=> ?_
 subst he
 exact⟨_,rfl,_,_,_,[],_,[],hW',trodAll_mk1 (shut_bool Tryz.underlying4 _),(trodAll_cons_mk (shut_string Tryz.underlying9 w0) (trodAll_cons_mk (shut_string Tryz.underlying9 w1) (trodAll_cons_mk (shut_string Tryz.underlying9 w2) trodAll_mk0))),rfl,bel.frame _,fun h=>by cases h⟩
theorem F8:Rows.FixTwiceSaid:=
 OpenClaim.holds_of_wide 4 Tryz.f4 rfl rfl rfl rfl rfl rfl rfl ⟨rfl,rfl,rfl,rfl,rfl⟩ rfl rfl rfl rfl rfl (by kernel_rfl) Tryz.func4 (by kernel_rfl)
  (of_decide_eq_true (by kernel_rfl)) (by unfold Func.isWrapper;first|(rw[if_pos (by decide+kernel)];kernel_rfl)|(rw[if_neg (by decide+kernel)];exact⟨rfl,rfl⟩))
  (fun os started H enc _=>lifted os started H enc)
theorem proved:Rows.FixTwiceCardSaid:=
 Claim7.holds_tied_plain_at .later [] [.handle,.data,.widerDeep] true Rows.fixTwiceCard.stood.harness true
  F8 (fun _ h=>by cases h) (by kernel_rfl) (fun _ h=>by cases h) fixTwice_row_tie rfl ⟨rfl,rfl⟩ (by kernel_rfl) rfl
  (fun f fn hf hfn=>by
   obtain rfl:f=4:=Option.some.inj ((show Tryz.prog.funcNamed "escritoire/escritoirekeep.FixTwice"=some 4 by kernel_rfl).symm.trans hf) |>.symm
   obtain rfl:fn=Tryz.f4:=(Option.some.inj (Tryz.func4.symm.trans hfn)).symm
   exact⟨by kernel_rfl,fun j t ht=>by
    rw[Tryz.params4]at ht
    have h3:t=9:=by
     rcases j with _|_|_|j
     ·simp at ht;subst ht;simp
     ·simp at ht;subst ht;simp
     ·simp at ht;subst ht;simp
     ·simp at ht
    rcases h3 with rfl
    exact(show Tryz.prog.wantsStandIn 9=false by kernel_rfl)⟩)
  (by kernel_rfl)
#print axioms proved
end FixTwiceProof
end
end Go.Proofs.YtlomecfhobehnaaGreatDoor
