import Derived.Test.YtlomecfhobehnaaGreatDoorMgFixDrops22
set_option linter.all false
set_option maxRecDepth 100000
set_option maxHeartbeats 1000000
namespace Go.Proofs.YtlomecfhobehnaaGreatDoor
open Lib (hid)
section
namespace Ly
open Ex (X Names ev)
open Tm
theorem xl{a b:Option X}(h:vU a b)(N:Names):a.bind (ev N)=b.bind (ev N):=by
 cases a <;> cases b
 ·rfl
 ·exact h.elim
 ·exact h.elim
 ·exact Ex.gI.ev (N:=N) h
theorem xn{a b:Option X}(h:vU a b):a.isSome=b.isSome:=by
 cases a <;> cases b <;> first|rfl|exact h.elim
theorem ku{a b:Hd}(h:jh a b):cP a=cP b:=by
 rw[ma,ma,h.1,xn h.2.2.1]
theorem xo{a b:Hd}(h:jh a b):single a=single b:=by
 rw[eQ,eQ,h.1,xn h.2.2.1]
theorem xp(S:Sub)(s:Wd)(N:Names){a b:Hd}(h:jh a b)(st:St):bL S s N a st=bL S s N b st:=by
 unfold bL;rw[h.1,h.2.1,xl h.2.2.1 N]
theorem Io(S:Sub)(s:Wd)(N:Names){a b:Hd}(h:jh a b)(st:St):hdR S s N a st=hdR S s N b st:=by
 unfold hdR iw;rw[ku h,xp S s N h,show bL S s N a=bL S s N b from funext (xp S s N h),h.2.1,xl h.2.2.1 N]
theorem FD(S:Sub)(s:Wd){l m:Its}(h:eC l m):∀(N:Names) (st:St),bO S s l N st=bO S s m N st:=by
 induction h with
 |nil=>intro N st;rfl
 |cons hh _ ih=>
  intro N st;unfold bO;rw[Io S s N hh st,xo hh,hh.2.1]
  congr 1
  funext p
  rw[ih]
 |when hc _ _ ih1 ih2=>
  intro N st;unfold bO;rw[Ex.gI.ev (N:=N) hc]
  congr 1
  funext st1
  congr 1
  funext v
  rw[ih1]
  congr 1
  funext p
  rw[ih2]
theorem Bj(s:Wd){l m:List Ty}(h:cy l m):rdS s l=rdS s m:=by
 induction h with
 |nil=>rfl
 |@cons a b l m hh _ ih=>
  funext nm st
  show(if a.name=nm then _ else _)=(if b.name=nm then _ else _);rw[hh.1,ih,FD _ _ hh.2]
theorem zM{l m l' m':List Ty}(h:cy l m)(h':cy l' m'):cy (l++l') (m++m'):=by
 induction h with
 |nil=>exact h'
 |cons a _ ih=>exact .cons a ih
theorem lE{l m:List Ty}(h:cy l m):cy l.reverse m.reverse:=by
 induction h with
 |nil=>exact .nil
 |cons a _ ih=>
  rw[List.reverse_cons,List.reverse_cons];exact zM ih (.cons a .nil)
def cG:Wd:=[0,1,2,2,104,105,0,7,0,0,0,0]
def eS:Wd:=[98,111,120]
def qH:Nds:=(.cons [107,105,110,100] 1 0 2 1 [] .nil (.cons [109,97,110,121] 1 2 1 2 [] .nil (.cons [108] 9 3 4 0 [] (.cons [108] 3 3 3 0 [] (.cons [110] 1 3 1 2 [] .nil (.cons [115] 2 4 2 0 [104,105] .nil .nil)) (.cons [108] 3 6 1 0 [] (.cons [110] 1 6 1 0 [] .nil (.cons [115] 2 7 0 0 [] .nil .nil)) .nil)) (.cons [] 4 7 1 1 [] (.cons [109,111,114,101] 1 7 1 7 [] .nil .nil) (.cons [115,117,109] 1 8 4 0 [] .nil .nil)))))
theorem xq:bL (rdS cG ca.reverse) cG (fun _=>none) (cm eS) ⟨0,0⟩=some (⟨eS,3,0,12,0,[],qH⟩,⟨12,13⟩):=by
 rfl
end Ly
end
section
open Go Go.RowKit
open Rd
open Ly
namespace Ly
theorem dN{ts:List Tm.Wd}:∀(i:Nat) (l:Tm.Its),kV ts l→kV ts (l.drop i)
 |0,l,h=>by cases l <;> exact h
 |i+1,.nil,h=>h
 |i+1,.cons _ l,h=>dN i l h.2
 |i+1,.when _ _ _ l,h=>dN i l h.2
end Ly
theorem oK(A:List Tm.Ty)(S:Sub)(s:Tm.Wd)(hs:s.length≤1000000)(ts:List Tm.Wd)(hS:∀nm∈ts,Ft A S s nm):∀(n:Nat) (l:Tm.Its),l.sz < n→Tm.bG l→kV ts l→l.sz≤100000→sZ A S s l
 |0,l,h,_,_,_=>absurd h (Nat.not_lt_zero _)
 |n+1,l,h,hF,hR,hz=>by
  refine uJ A S s hs l hF (Nat.le_trans (Tm.lA l) hz) (fun i a c b r hd=> ?_) (fun i hh r t hd hk=> ?_)
  ·have h1:=Tm.dh i l hF;have h2:=dN i l hR;have h3:=Tm.gT i l;rw[hd]at h1 h2 h3;have h4:b.sz+1≤(Tm.Its.when a c b r).sz:=by simp only[Tm.Its.sz];omega
   exact oK A S s hs ts hS n b (by omega) h1.2.1 h2.1 (by omega)
  ·have h2:=dN i l hR;rw[hd]at h2;exact hS t (h2.1 t hk)
theorem xr(A:List Tm.Ty)(s:Tm.Wd)(hs:s.length≤1000000)(hA:∀t∈A,Tm.bg t∧Tm.Its.sz t.items≤100000):∀(r:List Tm.Ty),(∀t∈r,t∈A)→gB r→∀nm∈names r,Ft A (rdS s r) s nm
 |[],_,_,nm,h=>by cases h
 |t::r,hm,hc,nm,h=>by
  obtain⟨c1,c2,c3⟩:=hc;have ih:=xr A s hs hA r (fun t' ht'=>hm t' (List.mem_cons_of_mem _ ht')) c3;have htA:=hm t (by simp);obtain⟨f1,f2⟩:=hA t htA
  by_cases hn:t.name=nm
  ·refine⟨t,htA,hn,by have:=kr f1.1.2;omega,rdS s r,fun st=>uL st,oK A (rdS s r) s hs (names r) ih _ t.items (Nat.lt_succ_self _) f1.2 c2 f2⟩
  ·have hr:nm∈names r:=by
    rcases List.mem_cons.1 h with h|h
    ·exact absurd h.symm hn
    ·exact h
   obtain⟨t2,g1,g2,g3,S',g4,g5⟩:=ih nm hr;refine⟨t2,g1,g2,g3,S',fun st=> ?_,g5⟩;rw[jH (by rw[g2];exact hn)];exact g4 st
structure FoS(U w wr:World)(rb:Nat)(tys:List Tm.Ty)(i:Nat):Prop where
 bel:Below w.heap.size w wr
 lt:w.heap.size < wr.heap.size
 fm:∃n G,fC Tryz.prog 9 wr w.heap.size n G∧n≤i∧(∀t∈tys.take i,∃ga cap bs,G (.string t.name)=some (.slice ga t.items.len cap)∧ak U (rb+1) 70 13 ga t.items.len cap bs∧Tm.bu U rb t.items bs)∧(∀nm:Tm.Wd,(∀t∈tys.take i,t.name≠nm)→G (.string nm)=none)
theorem FoS.start(U w:World)(rb:Nat)(tys:List Tm.Ty):FoS U w (w.alloc (.map #[] 0)) rb tys 0:=
 ⟨(Y4 _ _).alloc (Z5 _) _,by simp,0,_,fC.made w,Z5 _,fun t ht=>by simp at ht,fun nm _=>rfl⟩
theorem FoS.push{U w wr V w5:World}{rb i nm capb:Nat}{tys:List Tm.Ty}{t:Tm.Ty}{G:Lit→Option Value}{ga:Option Addr}{bs:List Value}{o:Obj}(h:FoS U w wr rb tys i)(hnd:(tys.map (·.name)).Nodup)(hV:V=wr.alloc o)(hti:tys.take (i+1)=tys.take i++[t])
  (hit:ak U (rb+1) 70 13 ga t.items.len capb bs∧Tm.bu U rb t.items bs)(hM:nm≤i∧(∀t∈tys.take i,∃ga cap bs,G (.string t.name)=some (.slice ga t.items.len cap)∧ak U (rb+1) 70 13 ga t.items.len cap bs∧Tm.bu U rb t.items bs)∧(∀nm:Tm.Wd,(∀t∈tys.take i,t.name≠nm)→G (.string nm)=none))
  (hm:fC Tryz.prog 9 w5 w.heap.size (nm+1) (CM G (.string t.name) (.slice ga t.items.len capb)))(hg:V.grownBy w5 (some w.heap.size))(hs:w5.heap.size=V.heap.size):FoS U w w5 rb tys (i+1):=by
 have hbV:Below w.heap.size w V:=by rw[hV];exact h.bel.alloc h.bel.size _
 have hsz:V.heap.size=wr.heap.size+1:=by rw[hV];simp
 obtain⟨h1,h2,h3⟩:=hM;have hsub:((tys.take i++[t]).map (·.name)).Nodup:=by
  rw[← hti];exact List.Sublist.nodup ((List.take_sublist _ _).map _) hnd
 rw[List.map_append,List.nodup_append]at hsub;have hne:∀t'∈tys.take i,t'.name≠t.name:=fun t' ht'=>hsub.2.2 _ (List.mem_map_of_mem ht') _ (by simp)
 have hlit:∀{a b:Tm.Wd},a≠b→Lit.string a≠Lit.string b:=fun hab e=>by injection e with e;exact hab e
 refine⟨hbV.grown hg (by have:=h.lt;omega) (fun k e=>by injection e with e;omega),by have:=h.lt;omega,nm+1,_,hm,by omega,fun t' ht'=> ?_,fun x hx=> ?_⟩
 ·rw[hti]at ht';rcases List.mem_append.1 ht' with h4|h4
  ·rw[lz _ _ (hlit (hne t' h4))];exact h2 t' h4
  ·have:t'=t:=by simpa using h4
   subst this;rw[sV _ (mi _)];exact⟨ga,capb,bs,rfl,hit.1,hit.2⟩
 ·rw[hti]at hx;rw[lz _ _ (hlit (fun e=>hx t (by simp) e.symm))];exact h3 x (fun t' ht'=>hx t' (List.mem_append_left _ ht'))
theorem lF(tys:List Tm.Ty)(U w:World)(hU:Below U.heap.size U w)(rb cap B:Nat)(a:Option Addr)(vs:List Value)(ho:ak U B 97 3 a tys.length cap vs)(he:Tm.cI U rb tys vs)(hF:∀t∈tys,Tm.bg t)(hn:tys.length≤100)(hnd:(tys.map (·.name)).Nodup):
  Calls Tryz.prog 27 #[.slice a tys.length cap] w fun e w'=>e= .returned (.map (some w.heap.size))∧Below w.heap.size w w'∧bV U w' rb w.heap.size tys:=by
 have hcap:tys.length≤cap:=aW ho;obtain⟨n,hn'⟩:∃n,n=tys.length:=⟨_,rfl⟩;rw[← hn']at hcap hn⊢;have HO:=hid ho;have HE:=hid he;have HF:=hid hF;have HN:=hid hn';have HND:=hid hnd;have hmk:∀V,(Instr.makeMap 59 none).run Tryz.prog V= .ok (.map (some V.heap.size)) (V.alloc (.map #[] 0)):=fun V=>by kernel_rfl
 have S0:=hid (FoS.start U w rb tys);clear ho he hF hn' hnd;go_enter Tryz.func27,Tryz.ntmps27;go_wp2_with fail;go_loopw [9] (fun v9 wr=>∃(i:Nat),v9= .int .i64 (i:Nat)∧i≤n∧Hid (FoS U w wr rb tys i)) (fun v9 _=>n - (intOf v9).toNat)
 case atStart=>exact⟨0,rfl,Nat.zero_le _,S0⟩
 case round=>
  obtain⟨i,rfl,hi,HS⟩:=hrel;clear S0
  by_cases hin:i < n
  ·have q1:decide ((i:Int) < (n:Int))=true:=Z9 (by omega);have q2:decide (i < n)=true:=Z9 hin;have hii:(i:Int) < (n:Int):=by omega
   have HLT:=hid hin;obtain⟨x,rfl⟩:∃x,a=some x:=by
    cases a with
    |none=>have:=HO.out.aS.1;rw[← HN.out]at this;omega
    |some x=>exact⟨x,rfl⟩
   obtain⟨gb,rfl⟩:∃gb,x=⟨gb,0,none⟩:=⟨x.block,HO.out.row.1⟩;obtain⟨t,r,hdr⟩:=Tm.iz tys i (by rw[← HN.out];exact hin);obtain⟨ga,capb,bs,g1,g2,g3,g4⟩:=Tm.cI.ty HO.out HE.out hdr;have hmem:t∈tys:=by
    have:t∈tys.drop i:=by rw[hdr];simp
    exact List.mem_of_mem_drop this
   have hti:tys.take (i+1)=tys.take i++[t]:=by
    rw[List.take_add,hdr];rfl
   have hrow:=(g3.below hU g3.lt).below HS.out.bel (Nat.lt_of_lt_of_le g3.lt hU.size);have c0:=hrow.cell 0 (by simp);have c1:=hrow.cell 1 (by simp);have c2:=hrow.cell 2 (by simp);simp only[Z0,Z1,Y2]at c0 c1 c2;obtain⟨nm,G,m1,m2,m3,m4⟩:=HS.out.fm;obtain⟨V,hV⟩:∃V,V=wr.alloc (.cells #[.string (aa t.name),.int .i64 (t.at_:Nat),.slice ga (Tm.Its.len t.items) capb] 97):=⟨_,rfl⟩;have hMV:fC Tryz.prog 9 V w.heap.size nm G:=by rw[hV];exact m1.an (Below.heap_alloc _ _ _ m1.lt)
   have HMV:=hid hMV;have HIT:=hid (And.intro g1 g2);have HTI:=hid hti;have HM:=hid (And.intro m2 (And.intro m3 m4));have hnl:t.name.length≤100000:=by have:=kr (HF.out t hmem).1.2;omega
   have HNL:=hid hnl;have HV:=hid hV;clear g1 g2 g3 g4 hrow hdr hmem hti m1 m2 m3 m4 hMV hnl hin hi hV;have hbx:ae (wr.alloc (.cells #[.string {data:= #[]},.int .i64 0,.slice none 0 0] 97)) wr.heap.size 0 97 [.string {data:= #[]},.int .i64 0,.slice none 0 0]:=ae.new wr 97 #[.string {data:= #[]},.int .i64 0,.slice none 0 0];have y0:=hbx.cell0 0 (by simp);have z0:=hbx.frozen0 0 (by simp);have y1:=hbx.cell0 1 (by simp);have z1:=hbx.frozen0 1 (by simp);have y2:=hbx.cell0 2 (by simp);have z2:=hbx.frozen0 2 (by simp);simp only[Z0,Z1]at y0 y1 y2;have hby:ae (wr.alloc (.cells #[.string (aa t.name),.int .i64 (t.at_:Nat),.slice ga (Tm.Its.len t.items) capb] 97)) wr.heap.size 0 97 [.string (aa t.name),.int .i64 (t.at_:Nat),.slice ga (Tm.Its.len t.items) capb]:=ae.new wr 97 #[.string (aa t.name),.int .i64 (t.at_:Nat),.slice ga (Tm.Its.len t.items) capb];have v0:=hby.cell0 0 (by simp);have v2:=hby.cell0 2 (by simp);simp only[Z0,Z1]at v0 v2;clear hbx hby;go_wp2_with (rw[← HV.out];refine se V rfl _ _ _ 59 rfl 9 63 Tryz.underlying59 (Maps.string_keyed Tryz.underlying9) w.heap.size nm G rfl HMV.out (by have:=HM.out.1;show nm < 9223372036854775807;omega) (.string (aa t.name)) (.slice ga (Tm.Its.len t.items) capb) _ (uC Tryz.underlying9 t.name (by have:=HNL.out;omega)) (mi _) rfl rfl ?_;intro w5 hm5 hg5 hs5);go_wp2_with fail;go_roundw
   case rel=>exact⟨i+1,rfl,by have:=HLT.out;omega,hid (HS.out.push HND.out HV.out HTI.out HIT.out HM.out hm5 hg5 hs5)⟩
   case measure=>simp only[intOf];have:=HLT.out;omega
  ·have q1:decide ((i:Int) < (n:Int))=false:=Y9 (by omega);have q2:decide (i < n)=false:=Y9 hin;have HEQ:=hid (show i=n by omega);clear hin hi;go_wp2_with fail;go_ret;obtain⟨nm,G,m1,m2,m3,m4⟩:=HS.out.fm;rw[HEQ.out,HN.out,List.take_length]at m3 m4;exact⟨rfl,HS.out.bel,nm,G,m1,m3,m4⟩
theorem ic(pb:Nat)(x:Value)(t:TypeId)(v:Value)(older:List PanicEntry)(w:World)(hc:w.cell? ⟨pb,0,none⟩=some x)(hz:w.frozen? ⟨pb,0,none⟩=false)(hp:pb < w.heap.size):
  CallsD Tryz.prog 59 #[.pointer (some ⟨pb,0,none⟩)] (.panicking ({v:= .iface 110 (.agg #[.iface t v]),recovered:=false}::older)) w fun e u' w'=>
   e= .returned (.tuple #[])∧u'= .panicking ({v:= .iface 110 (.agg #[.iface t v]),recovered:=true}::older)∧∃o,w'=(w.setCell ⟨pb,0,none⟩ (.iface t v)).alloc o:=by
 refine callsD_of_wpS Tryz.func59 rfl fun c₀ cs hu=> ?_
 simp only[Tryz.ntmps59,List.size_toArray,Z6,Y3,Nat.reduceAdd,Nat.reduceSub,Array.replicate_succ,Array.replicate_zero,List.push_toArray,List.append_toArray,List.nil_append,List.cons_append];apply wpS_seq;apply wpS_region;simp[wpOpsS,go_sem,recoverD,hu,Tryz.ntmps59,Exit.thenS];refine wpS_of_wp ?_;have hta:∀V:World,(Instr.typeAssert (.iface 110 (.agg #[.iface t v])) 20 110 true).run Tryz.prog V= .ok (.tuple #[.agg #[.iface t v],.bool true]) V:=fun V=>by kernel_rfl
 go_wp2_with fail;exact⟨rfl,_,rfl,.tuple #[],results_none rfl _ _ _,rfl,rfl,_,rfl⟩
theorem jI(pb:Nat)(w:World):
  CallsD Tryz.prog 59 #[.pointer (some ⟨pb,0,none⟩)] .returning w fun e u' w'=>e= .returned (.tuple #[])∧u'= .returning∧w'=w:=by
 refine callsD_of_wpS Tryz.func59 rfl fun c₀ cs hu=> ?_
 simp only[Tryz.ntmps59,List.size_toArray,Z6,Y3,Nat.reduceAdd,Nat.reduceSub,Array.replicate_succ,Array.replicate_zero,List.push_toArray,List.append_toArray,List.nil_append,List.cons_append];apply wpS_seq;apply wpS_region;simp[wpOpsS,go_sem,recoverD,hu,Tryz.ntmps59,Exit.thenS];refine wpS_of_wp ?_;go_wp2_with fail;cases c₀
 simp_all[bodyPostS,results,Tryz.results59]
def fT(w:World)(R B:World→Prop)(e:Ending)(w':World):Prop:=
 (e= .returned .nilIface∧∃w1,R w1∧w'=w1.setCell ⟨w.heap.size,0,none⟩ .nilIface)∨(∃t v,e= .returned (.iface t v)∧∃w1 o,B w1∧w'=(w1.setCell ⟨w.heap.size,0,none⟩ (.iface t v)).alloc o)
def dA(w:World)(R B:World→Prop)(e:Ending)(w1:World):Prop:=w1.heap[w.heap.size]? =(w.alloc (.cells #[.nilIface] 30)).heap[w.heap.size]? ∧((e= .returned (.tuple #[])∧R w1)∨(oS e∧B w1))
theorem xu(c0 c1 c2 c3:Value)(w:World)(R B:World→Prop)(hf:Calls Tryz.prog 29 #[c0,c1,c2,c3] (w.alloc (.cells #[.nilIface] 30)) (dA w R B)):
  Calls Tryz.prog 28 #[.func (.func 29) #[] #[c0,c1,c2,c3]] w (fT w R B):=by
 have HF:=hid hf;clear hf
 go_enter_defers Tryz.func28,Tryz.ntmps28
 go_wp2_with fail;refine HF.out.mono ?_;unfold dA;rintro e w1 ⟨hk,h⟩;have hrow:ae (w.alloc (.cells #[.nilIface] 30)) w.heap.size 0 30 [.nilIface]:=ae.new w 30 #[.nilIface];have hrow1:=hrow.of_heap hk;have hc1:=hrow1.cell0 0 (by simp);have hf1:=hrow1.frozen0 0 (by simp);simp only[Z0]at hc1;have hl1:=hrow1.lt;clear hrow hrow1 hk;rcases h with⟨rfl,hR⟩|⟨⟨t,v,he⟩,hB⟩
 ·have HR:=hid hR;have hc4:(w1.setCell ⟨w.heap.size,0,none⟩ .nilIface).cell? ⟨w.heap.size,0,none⟩=some .nilIface:=World.cell?_setCell_same' _ _ _ (by rw[hc1];rfl);clear hR;go_wp2_with fail;refine leaves_cons (f:=59) (args:= #[.pointer (some ⟨w.heap.size,0,none⟩)]) (by simp) (by simp[go_sem]) ?_;refine(jI w.heap.size _).mono ?_;rintro e u' w5 ⟨rfl,rfl,rfl⟩;simp[Leaves,settle,results,Tryz.results28,go_sem,hc4];exact .inl ⟨rfl,_,HR.out,rfl⟩
 ·unfold bC at he;subst he;have HB:=hid hB;clear hB;go_wp2_with fail;refine leaves_cons (f:=59) (args:= #[.pointer (some ⟨w.heap.size,0,none⟩)]) (by simp) (by simp[go_sem]) ?_;refine(ic w.heap.size .nilIface t v [] _ hc1 hf1 hl1).mono ?_;rintro e u' w5 ⟨rfl,rfl,o,rfl⟩;have hc5:(w1.setCell ⟨w.heap.size,0,none⟩ (.iface t v)).cell? ⟨w.heap.size,0,none⟩=some (.iface t v):=World.cell?_setCell_same' _ _ _ (by rw[hc1];rfl);have hb6:=(Y4 (w1.setCell ⟨w.heap.size,0,none⟩ (.iface t v)).heap.size (w1.setCell ⟨w.heap.size,0,none⟩ (.iface t v))).alloc (Z5 _) o;have hc6:((w1.setCell ⟨w.heap.size,0,none⟩ (.iface t v)).alloc o).cell? ⟨w.heap.size,0,none⟩=some (.iface t v):=(hb6.cell (p:=⟨w.heap.size,0,none⟩) (by simpa using hl1)).trans hc5;simp[Leaves,settle,results,Tryz.results28,go_sem,hc6];exact .inr ⟨t,v,rfl,_,o,HB.out,rfl⟩
theorem uM(c0 c1 c2 c3:Value)(w:World)(R B:World→Prop)(hf:Calls Tryz.prog 32 #[c0,c1,c2,c3] (w.alloc (.cells #[.nilIface] 30)) (dA w R B)):
  Calls Tryz.prog 28 #[.func (.func 32) #[] #[c0,c1,c2,c3]] w (fT w R B):=by
 have HF:=hid hf;clear hf
 go_enter_defers Tryz.func28,Tryz.ntmps28
 go_wp2_with fail;refine HF.out.mono ?_;unfold dA;rintro e w1 ⟨hk,h⟩;have hrow:ae (w.alloc (.cells #[.nilIface] 30)) w.heap.size 0 30 [.nilIface]:=ae.new w 30 #[.nilIface];have hrow1:=hrow.of_heap hk;have hc1:=hrow1.cell0 0 (by simp);have hf1:=hrow1.frozen0 0 (by simp);simp only[Z0]at hc1;have hl1:=hrow1.lt;clear hrow hrow1 hk;rcases h with⟨rfl,hR⟩|⟨⟨t,v,he⟩,hB⟩
 ·have HR:=hid hR;have hc4:(w1.setCell ⟨w.heap.size,0,none⟩ .nilIface).cell? ⟨w.heap.size,0,none⟩=some .nilIface:=World.cell?_setCell_same' _ _ _ (by rw[hc1];rfl);clear hR;go_wp2_with fail;refine leaves_cons (f:=59) (args:= #[.pointer (some ⟨w.heap.size,0,none⟩)]) (by simp) (by simp[go_sem]) ?_;refine(jI w.heap.size _).mono ?_;rintro e u' w5 ⟨rfl,rfl,rfl⟩;simp[Leaves,settle,results,Tryz.results28,go_sem,hc4];exact .inl ⟨rfl,_,HR.out,rfl⟩
 ·unfold bC at he;subst he;have HB:=hid hB;clear hB;go_wp2_with fail;refine leaves_cons (f:=59) (args:= #[.pointer (some ⟨w.heap.size,0,none⟩)]) (by simp) (by simp[go_sem]) ?_;refine(ic w.heap.size .nilIface t v [] _ hc1 hf1 hl1).mono ?_;rintro e u' w5 ⟨rfl,rfl,o,rfl⟩;have hc5:(w1.setCell ⟨w.heap.size,0,none⟩ (.iface t v)).cell? ⟨w.heap.size,0,none⟩=some (.iface t v):=World.cell?_setCell_same' _ _ _ (by rw[hc1];rfl);have hb6:=(Y4 (w1.setCell ⟨w.heap.size,0,none⟩ (.iface t v)).heap.size (w1.setCell ⟨w.heap.size,0,none⟩ (.iface t v))).alloc (Z5 _) o;have hc6:((w1.setCell ⟨w.heap.size,0,none⟩ (.iface t v)).alloc o).cell? ⟨w.heap.size,0,none⟩=some (.iface t v):=(hb6.cell (p:=⟨w.heap.size,0,none⟩) (by simpa using hl1)).trans hc5;simp[Leaves,settle,results,Tryz.results28,go_sem,hc6];exact .inr ⟨t,v,rfl,_,o,HB.out,rfl⟩
namespace Ly
def aw(l:List Tm.Ty)(root s:Tm.Wd):Option Nd:=(bL (rdS s l.reverse) s (fun _=>none) (cm root) ⟨0,0⟩).bind fun p=>if p.2.at_=s.length then some p.1 else none
theorem xw{s:Tm.Wd}:∀{l:List Tm.Ty} {nm:Tm.Wd} (_:nm∉names l) (st:St),rdS s l nm st=none
 |[],_,_,_=>rfl
 |t::r,nm,h,st=>by
  rw[jH (fun e=>h (by rw[← e];simp[names]))];exact xw (fun h2=>h (by simp only[names,List.map_cons,List.mem_cons];exact .inr h2)) st
theorem uN{l:List Tm.Ty}{root s:Tm.Wd}(h:root∉names l):aw l root s=none:=by
 unfold aw bL;cases nod ⟨0,0⟩with
 |none=>rfl
 |some st1=>
  simp only[Option.bind_some,cm];rw[xw (fun h2=>h ((nS l root).1 h2))];rfl
end Ly
structure RcS(U W:World)(rb fb b:Nat)(A:List Tm.Ty)(root s:Tm.Wd)(cr c0 cn cs:Nat):Prop where
 bel:Below U.heap.size U W
 bU:U.heap.size≤b
 form:bV U W rb fb A
 lr:LR W b (.map (some fb)) s ⟨0,0⟩
 r0:ae W cr 0 57 [.pointer (some ⟨b,0,none⟩)]
 r1:ae W c0 0 9 [.string (aa root)]
 r2:ae W cn 0 28 cM
 r3:ae W cs 0 9 [.string (aa s)]
theorem RcS.up{U W W':World}{rb fb b:Nat}{A:List Tm.Ty}{root s:Tm.Wd}{cr c0 cn cs:Nat}(h:RcS U W rb fb b A root s cr c0 cn cs)(hb:Below W.heap.size W W'):RcS U W' rb fb b A root s cr c0 cn cs:=
 ⟨h.bel.trans (hb.mono h.bel.size),h.bU,h.form.an (hb.block _ h.form.lt),h.lr.an (hb.block _ h.lr.row.lt),h.r0.below hb h.r0.lt,h.r1.below hb h.r1.lt,h.r2.below hb h.r2.lt,h.r3.below hb h.r3.lt⟩
structure Two(w w':World)(b c:Nat):Prop where
 os:w'.os=w.os
 tape:w'.tape=w.tape
 output:w'.output=w.output
 size:w.heap.size≤w'.heap.size
 block:∀k,k < w.heap.size→k≠b→k≠c→w'.heap[k]? =w.heap[k]?
theorem Two.below{B:Nat}{w0 w w':World}{b c:Nat}(h:Below B w0 w)(k:Two w w' b c)(hB:B≤w.heap.size)(hb:B≤b)(hc:B≤c):Below B w0 w':=
 h.trans ⟨k.os,k.tape,k.output,k.size,fun i hi=>k.block i (by omega) (by omega) (by omega)⟩
theorem Du(w:World)(b:Nat)(v0 v1 v2 v3 v4 v5 v6:Value):(st7 w b v0 v1 v2 v3 v4 v5 v6).os=w.os∧(st7 w b v0 v1 v2 v3 v4 v5 v6).tape=w.tape∧(st7 w b v0 v1 v2 v3 v4 v5 v6).output=w.output:=by
 have k1:∀(W:World) (p:Addr) (v:Value),(W.setCell p v).os=W.os:=fun _ _ _=>rfl
 have k2:∀(W:World) (p:Addr) (v:Value),(W.setCell p v).tape=W.tape:=fun _ _ _=>rfl
 have k3:∀(W:World) (p:Addr) (v:Value),(W.setCell p v).output=W.output:=fun _ _ _=>rfl
 unfold st7;simp only[k1,k2,k3,and_self]
def Ks(W:World)(b cn:Nat)(o:Option Nd)(e:Ending)(w1:World):Prop:=Two W w1 b cn∧match o with
 |some d=>e= .returned (.tuple #[])∧∃ga cap bs b1,ae w1 cn 0 28 (ab d.name d.kind d.at_ d.size d.val d.text (.slice ga d.kids.len cap))∧ak w1 W.heap.size 28 7 ga d.kids.len cap bs∧aU w1 W.heap.size d.kids b1 bs∧(aB ga++b1).Nodup
 |none=>oS e
theorem Dv(U W:World)(rb fb b:Nat)(A:List Tm.Ty)(root s:Tm.Wd)(cr c0 cn cs:Nat)(h:RcS U W rb fb b A root s cr c0 cn cs)(hsub:Ft A (rdS s A.reverse) s root)(hs:s.length≤1000000):
  Calls Tryz.prog 29 #[.pointer (some ⟨cr,0,none⟩),.pointer (some ⟨c0,0,none⟩),.pointer (some ⟨cn,0,none⟩),.pointer (some ⟨cs,0,none⟩)] W (Ks W b cn (aw A root s)):=by
 obtain⟨t,ht,hnm,htl,S',hS,hI⟩:=hsub;subst hnm;have k0:=h.r0.cell0 0 (by simp);have k1:=h.r1.cell0 0 (by simp);have k2:=h.r3.cell0 0 (by simp);simp only[Z0]at k0 k1 k2;have hnb:cn≠b:=by rintro rfl;exact absurd (h.r2.ty h.lr.row) (by decide)
 have hrb:cr≠b:=by rintro rfl;exact absurd (h.r0.ty h.lr.row) (by decide)
 have hsb:cs≠b:=by rintro rfl;exact absurd (h.r3.ty h.lr.row) (by decide)
 have hrn:cr≠cn:=by rintro rfl;exact absurd (h.r0.ty h.r2) (by decide)
 have hsn:cs≠cn:=by rintro rfl;exact absurd (h.r3.ty h.r2) (by decide)
 obtain⟨V,hV⟩:∃V,V=W.alloc (.cells #[.int .i64 3,.int .i64 0,.string (aa t.name),.string (aa t.name),.int .i64 0,.int .i64 0,.bool false,.bool false,.pointer none,.int .i64 0,.string {data:= #[]},.string {data:= #[]},.slice none 0 0] 70):=⟨_,rfl⟩;have hrow:ae V W.heap.size 0 70 (Tm.ag (cm t.name) (.pointer none)):=by rw[hV];exact ae.new W _ _
 have hbV:Below W.heap.size W V:=by rw[hV];exact(Y4 _ _).alloc (Z5 _) _
 have hC:=qt A (rdS s A.reverse) S' s t ht hS hI htl b rb fb (.map none) (.pointer none) W.heap.size 0 ⟨0,0⟩ (fun _=>none) (cm t.name) U V (h.lr.an (hbV.block _ h.lr.row.lt)) (h.bel.trans (hbV.mono h.bel.size)) h.bU (h.form.an (hbV.block _ h.form.lt)) hs rfl hrow;have HC:=hid hC;have HH:=hid h;have HV:=hid hV;have HBV:=hid hbV;clear h hC hrow hV hbV hS hI;go_enter Tryz.func29,Tryz.ntmps29;go_wp2_with fail;rw[← HV.out];refine HC.out.mono ?_;unfold gp;rintro e w2 ⟨hb2,hv⟩;clear k0 k1 k2;have htwo:Two W w2 b cn:=⟨hb2.os.trans HBV.out.os,hb2.tape.trans HBV.out.tape,hb2.output.trans HBV.out.output,Nat.le_trans HBV.out.size hb2.size,fun k h1 h2 h3=>(hb2.block k (Nat.lt_of_lt_of_le h1 HBV.out.size) h2 (fun e=>by cases e)).trans (HBV.out.block k h1)⟩;have HT:=hid htwo;have far:∀{g off:Nat} {ty:TypeId} {xs:List Value},ae W g off ty xs→g≠b→ae w2 g off ty xs:=fun hr hne=>hr.of_heap ((hb2.block _ (Nat.lt_of_lt_of_le hr.lt HBV.out.size) hne (fun e=>by cases e)).trans (HBV.out.block _ hr.lt))
 have f0:=far HH.out.r0 hrb;have f2:=far HH.out.r2 hnb;have f3:=far HH.out.r3 hsb;cases ho:bL (rdS s A.reverse) s (fun _=>none) (cm t.name) ⟨0,0⟩with
 |none=>
  rw[ho]at hv;obtain⟨t',v,he⟩:=hv;unfold bC at he;subst he;have HO:=hid (show aw A t.name s=none by unfold aw;rw[ho];rfl);clear hb2 htwo f0 f2 f3 ho;go_wp2_with fail;refine⟨rfl,HT.out,?_⟩;rw[HO.out];exact⟨t',v,rfl⟩
 |some p=>
  obtain⟨d,st⟩:=p;rw[ho]at hv;obtain⟨⟨v,bl,rfl,hd,hnd⟩,hl2,_,_⟩:=hv;obtain⟨ga,cap,bs,b1,hve,rfl,ho1,ho2⟩:=hd;have hve2:v= .agg #[.string (aa d.name),.int .i64 (d.kind:Nat),.int .i64 (d.at_:Nat),.int .i64 (d.size:Nat),.int .i64 d.val,.string (aa d.text),.slice ga d.kids.len cap]:=hve;subst hve2;have y0:=f2.cell0 0 (by simp);have z0:=f2.frozen0 0 (by simp);have y1:=f2.cell0 1 (by simp);have z1:=f2.frozen0 1 (by simp);have y2:=f2.cell0 2 (by simp);have z2:=f2.frozen0 2 (by simp);have y3:=f2.cell0 3 (by simp);have z3:=f2.frozen0 3 (by simp);have y4:=f2.cell0 4 (by simp);have z4:=f2.frozen0 4 (by simp);have y5:=f2.cell0 5 (by simp);have z5:=f2.frozen0 5 (by simp);have y6:=f2.cell0 6 (by simp);have z6:=f2.frozen0 6 (by simp);simp only[Z0,Z1]at y0 y1 y2 y3 y4 y5 y6;obtain⟨X,hX⟩:∃X,X=st7 w2 cn (.string (aa d.name)) (.int .i64 (d.kind:Nat)) (.int .i64 (d.at_:Nat)) (.int .i64 (d.size:Nat)) (.int .i64 d.val) (.string (aa d.text)) (.slice ga d.kids.len cap):=⟨_,rfl⟩;have hfar:∀g:Nat,g≠cn→X.heap[g]? =w2.heap[g]? :=fun g hg=>by rw[hX];exact dz _ _ _ _ _ _ _ _ hg
  have hrX:ae X cn 0 28 [.string (aa d.name),.int .i64 (d.kind:Nat),.int .i64 (d.at_:Nat),.int .i64 (d.size:Nat),.int .i64 d.val,.string (aa d.text),.slice ga d.kids.len cap]:=by rw[hX];exact pj f2 rfl _ _ _ _ _ _ _
  have hlX:LR X b (.map (some fb)) s st:=hl2.an (hfar b (Ne.symm hnb));have hcn:cn < W.heap.size:=HH.out.r2.lt;have hWV:W.heap.size≤V.heap.size:=HBV.out.size;have hTX:Two W X b cn:=by
   have hz:X.heap.size=w2.heap.size:=by rw[hX];exact qk _ _ _ _ _ _ _
   obtain⟨s1,s2,s3⟩:=Du w2 cn (.string (aa d.name)) (.int .i64 (d.kind:Nat)) (.int .i64 (d.at_:Nat)) (.int .i64 (d.size:Nat)) (.int .i64 d.val) (.string (aa d.text)) (.slice ga d.kids.len cap);rw[← hX]at s1 s2 s3;refine⟨s1.trans htwo.os,s2.trans htwo.tape,s3.trans htwo.output,by rw[hz];exact htwo.size,fun k h1 h2 h3=>(hfar k h3).trans (htwo.block k h1 h2 h3)⟩
  have hge:∀x,ga=some x→V.heap.size≤x.block:=fun x hx=>by subst hx;exact ho1.lt.1
  have hoX:ak X W.heap.size 28 7 ga d.kids.len cap bs:=(ho1.an (w':=X) fun x hx=>hfar x.block (by have:=hge x hx;omega)).mono hWV;have heX:aU X W.heap.size d.kids b1 bs:=(ho2.an (w':=X) _ _ _ (fun k hk=>hfar k (by have:=ho2.mem _ _ _ k hk;omega))).low hWV _ _ _;clear hge;have c0:=(f0.of_heap (hfar _ hrn)).cell0 0 (by simp);have c3:=(f3.of_heap (hfar _ hsn)).cell0 0 (by simp);have cb:=hlX.row.cell0 2 (by simp);simp only[Z0,Z1]at c0 c3 cb;have HTX:=hid hTX;have HRX:=hid hrX;have HOX:=hid hoX;have HEX:=hid heX;have HND:=hid hnd;have HLX:=hid hlX;have HX:=hid (show X=(((((((w2.setCell ⟨cn,0,none⟩ (.string (aa d.name))).setCell ⟨cn,1,none⟩ (.int .i64 (d.kind:Nat))).setCell ⟨cn,2,none⟩ (.int .i64 (d.at_:Nat))).setCell ⟨cn,3,none⟩ (.int .i64 (d.size:Nat))).setCell ⟨cn,4,none⟩ (.int .i64 d.val)).setCell ⟨cn,5,none⟩ (.string (aa d.text))).setCell ⟨cn,6,none⟩ (.slice ga d.kids.len cap))from hX);have hle:st.at_≤s.length:=hl2.len;clear hb2 htwo f0 f2 f3 hl2 hve ho1 ho2 hnd hX hfar hrX hlX hTX hoX heX hcn hWV
  by_cases hlt:st.at_ < s.length
  ·have HO:=hid (show aw A t.name s=none by
    unfold aw;rw[ho];show(if st.at_=s.length then some d else none)=none;rw[if_neg (by omega)])
   have q1:decide ((st.at_:Int) < (s.length:Int))=true:=Z9 (by omega);have q2:decide (st.at_ < s.length)=true:=Z9 hlt;clear ho hlt hle;go_wp2_with fail;rw[← HX.out];go_quiet (fail);have HD0:=hid (ae.drewN ((HH.out.r0.of_heap ((HTX.out.block cr HH.out.r0.lt hrb hrn)))) nq);have d0:=HD0.out.cell0 0 (by simp);simp only[Z0]at d0;have HF:=hid (km b 3 (.map (some fb)) s st (X.drewN nq) (HLX.out.an rfl));clear c0 c3 cb;go_wp2_with fail;refine HF.out.mono ?_;rintro e w5 ⟨⟨t',v,he⟩,hb5⟩;unfold bC at he;subst he;have HB5:=hid hb5;clear hb5;go_wp2_with fail;refine⟨rfl,⟨HB5.out.os.trans HTX.out.os,HB5.out.tape.trans HTX.out.tape,HB5.out.output.trans HTX.out.output,Nat.le_trans HTX.out.size HB5.out.size,fun k h1 h2 h3=>(HB5.out.block k (Nat.lt_of_lt_of_le h1 HTX.out.size)).trans (HTX.out.block k h1 h2 h3)⟩,?_⟩;rw[HO.out];exact⟨t',v,rfl⟩
  ·have HO:=hid (show aw A t.name s=some d by
    unfold aw;rw[ho];show(if st.at_=s.length then some d else none)=some d;rw[if_pos (by omega)])
   have q1:decide ((st.at_:Int) < (s.length:Int))=false:=Y9 (by omega);have q2:decide (st.at_ < s.length)=false:=Y9 hlt;clear ho hlt hle;go_wp2_with fail;rw[← HX.out];go_quiet (fail);go_wp2_with fail;refine bodyPost_ret (results_none rfl _ _ _) rfl ?_;refine⟨⟨HTX.out.os,HTX.out.tape,HTX.out.output,HTX.out.size,HTX.out.block⟩,?_⟩;rw[HO.out];exact⟨rfl,ga,cap,bs,b1,HRX.out.drewN nq,HOX.out.drewN nq,aU.an (w:=X) (w':=X.drewN nq) _ _ _ (fun _ _=>rfl) HEX.out,HND.out⟩
structure RsS(w wr:World)(rb:Nat)(A:List Tm.Ty)(root s:Tm.Wd)(cr:Nat):Prop where
 bel:Below w.heap.size w wr
 r0:ae wr w.heap.size 0 9 [.string (aa root)]
 r1:ae wr (w.heap.size+1) 0 9 [.string (aa s)]
 r2:ae wr (w.heap.size+1+1) 0 28 cM
 rd:∃fb b,w.heap.size≤b∧bV w wr rb fb A∧LR wr b (.map (some fb)) s ⟨0,0⟩∧ae wr cr 0 57 [.pointer (some ⟨b,0,none⟩)]
theorem bV.look_ok{U w:World}{rb fb:Nat}{A:List Tm.Ty}(h:bV U w rb fb A){nm:Tm.Wd}(hl:nm.length≤200000000000000):∃v,∀W:World,W.heap[fb]? =w.heap[fb]? →(Instr.lookup 59 (.map (some fb)) (.string (aa nm)) true).run Tryz.prog W= .ok (.tuple #[v,.bool (decide (nm∈names A))]) W:=by
 obtain⟨n,G,h1,h2,h3⟩:=h;refine⟨(G (.string nm)).getD (.slice none 0 0),fun W hW=> ?_⟩;have:=(h1.an hW).look_ok (Maps.string_keyed Tryz.underlying9) Tryz.underlying59 (tc W) (uC Tryz.underlying9 nm hl) (mi _);rw[this];have hd:(G (.string nm)).isSome=decide (nm∈names A):=by
  by_cases hm:nm∈names A
  ·obtain⟨t,ht,rfl⟩:=List.mem_map.1 hm;obtain⟨ga,cap,bs,h4,_⟩:=h2 t ht;rw[h4,Z9 hm];rfl
  ·rw[h3 nm (fun t ht e=>hm (by rw[← e];exact List.mem_map_of_mem ht)),Y9 hm];rfl
 rw[hd]
theorem nT{w0 w:World}(h:Below w0.heap.size w0 w){b:Nat}(hb:w0.heap.size≤b)(v0 v1 v2 v3 v4 v5 v6:Value):Below w0.heap.size w0 (st7 w b v0 v1 v2 v3 v4 v5 v6):=
 ((((((h.setCell (p:=⟨b,0,none⟩) hb v0).setCell (p:=⟨b,1,none⟩) hb v1).setCell (p:=⟨b,2,none⟩) hb v2).setCell (p:=⟨b,3,none⟩) hb v3).setCell (p:=⟨b,4,none⟩) hb v4).setCell (p:=⟨b,5,none⟩) hb v5).setCell (p:=⟨b,6,none⟩) hb v6
section
variable{w W3 W w4:World}{rb:Nat}{A:List Tm.Ty}{root s:Tm.Wd}
theorem RsS.mk0{wr:World}{fb b cr:Nat}(h3:Below w.heap.size w W3∧ae W3 w.heap.size 0 9 [.string (aa root)]∧ae W3 (w.heap.size+1) 0 9 [.string (aa s)]∧ae W3 (w.heap.size+1+1) 0 28 cM)(h:Below W3.heap.size W3 wr)(hb:w.heap.size≤b)(hf:bV w wr rb fb A)
  (hrow:ae wr b 0 62 [.map (some fb),.string (aa s),.int .i64 0,.int .i64 0])(hp:ae wr cr 0 57 [.pointer (some ⟨b,0,none⟩)]):RsS w wr rb A root s cr:=
 ⟨h3.1.trans (h.mono h3.1.size),h3.2.1.below h h3.2.1.lt,h3.2.2.1.below h h3.2.2.1.lt,h3.2.2.2.below h h3.2.2.2.lt,fb,b,hb,hf,⟨hrow,Nat.zero_le _,Nat.zero_le _⟩,hp⟩
theorem RsS.mkA(h3:Below w.heap.size w W3∧ae W3 w.heap.size 0 9 [.string (aa root)]∧ae W3 (w.heap.size+1) 0 9 [.string (aa s)]∧ae W3 (w.heap.size+1+1) 0 28 cM)(hb:Below W3.drew.heap.size W3.drew w4)(hf:bV w w4 rb W3.drew.heap.size A):
  RsS w ((w4.alloc (.cells #[.map (some W3.heap.size),.string (aa s),.int .i64 0,.int .i64 0] 62)).alloc (.cells #[.pointer (some ⟨w4.heap.size,0,none⟩)] 57)) rb A root s (w4.heap.size+1):=by
 have hz:W3.heap.size≤w4.heap.size:=hb.size;have h1:Below W3.heap.size W3 w4:=Below.trans (Y4 W3.heap.size W3).drew hb;have h2:=(h1.alloc hz (.cells #[.map (some W3.heap.size),.string (aa s),.int .i64 0,.int .i64 0] 62)).alloc (by simp;omega) (.cells #[.pointer (some ⟨w4.heap.size,0,none⟩)] 57);have h4:=h3.1.size;refine RsS.mk0 h3 h2 (b:=w4.heap.size) (fb:=W3.heap.size) (by omega) ?_ ((ae.new w4 _ _).alloc _) (ae.iI _ _ (by simp) _ _);exact(bV.an (w':=w4.alloc _) hf (Below.heap_alloc _ _ _ hf.lt)).an (Below.heap_alloc _ _ _ (by have:=hf.lt;simp;exact Nat.lt_succ_of_lt this))
theorem RsS.mkB(h3:Below w.heap.size w W3∧ae W3 w.heap.size 0 9 [.string (aa root)]∧ae W3 (w.heap.size+1) 0 9 [.string (aa s)]∧ae W3 (w.heap.size+1+1) 0 28 cM)(hb:Below W3.drew.heap.size W3.drew w4)(hf:bV w w4 rb W3.drew.heap.size A):
  RsS w ((w4.alloc (.cells #[.pointer (some ⟨w4.heap.size+1,0,none⟩)] 57)).alloc (.cells #[.map (some W3.heap.size),.string (aa s),.int .i64 0,.int .i64 0] 62)) rb A root s w4.heap.size:=by
 have hz:W3.heap.size≤w4.heap.size:=hb.size;have h1:Below W3.heap.size W3 w4:=Below.trans (Y4 W3.heap.size W3).drew hb;have h2:=(h1.alloc hz (.cells #[.pointer (some ⟨w4.heap.size+1,0,none⟩)] 57)).alloc (by simp;omega) (.cells #[.map (some W3.heap.size),.string (aa s),.int .i64 0,.int .i64 0] 62);have h4:=h3.1.size;refine RsS.mk0 h3 h2 (b:=w4.heap.size+1) (fb:=W3.heap.size) (by omega) ?_ (ae.iI _ _ (by simp) _ _) ((ae.new w4 _ _).alloc _);exact(bV.an (w':=w4.alloc _) hf (Below.heap_alloc _ _ _ hf.lt)).an (Below.heap_alloc _ _ _ (by have:=hf.lt;simp;exact Nat.lt_succ_of_lt this))
theorem RsS.mkC(h3:Below w.heap.size w W3∧ae W3 w.heap.size 0 9 [.string (aa root)]∧ae W3 (w.heap.size+1) 0 9 [.string (aa s)]∧ae W3 (w.heap.size+1+1) 0 28 cM)(h9:ae w4 W3.heap.size 0 57 [.pointer none])
  (hb:Below (W3.drew.alloc (.cells #[.pointer none] 57)).heap.size (W3.drew.alloc (.cells #[.pointer none] 57)) w4)(hf:bV w w4 rb (W3.drew.alloc (.cells #[.pointer none] 57)).heap.size A):
  RsS w ((w4.alloc (.cells #[.map (some (W3.heap.size+1)),.string (aa s),.int .i64 0,.int .i64 0] 62)).setCell ⟨W3.heap.size,0,none⟩ (.pointer (some ⟨w4.heap.size,0,none⟩))) rb A root s W3.heap.size:=by
 have hz:W3.heap.size+1≤w4.heap.size:=by have:=hb.size;simpa using this
 have h1:Below W3.heap.size W3 w4:=Below.trans ((Y4 W3.heap.size W3).drew.alloc (Z5 _) _) (hb.mono (by simp));have h2:=(h1.alloc (by omega) (.cells #[.map (some (W3.heap.size+1)),.string (aa s),.int .i64 0,.int .i64 0] 62)).setCell (p:=⟨W3.heap.size,0,none⟩) (Z5 _) (.pointer (some ⟨w4.heap.size,0,none⟩));have h4:=h3.1.size;have hff:bV w w4 rb (W3.heap.size+1) A:=by simpa using hf
 have hne:W3.heap.size+1≠W3.heap.size:=by omega
 refine RsS.mk0 h3 h2 (b:=w4.heap.size) (fb:=W3.heap.size+1) (by omega) ?_ ((ae.new w4 _ _).far (show w4.heap.size≠W3.heap.size by omega) _) ((h9.alloc _).ax 0 (by simp) _);exact(bV.an (w':=w4.alloc _) hff (Below.heap_alloc _ _ _ hff.lt)).an (Below.heap_setCell _ _ _ _ hne)
end
def gU(w:World)(o:Option Nd)(e:Ending)(w':World):Prop:=Below w.heap.size w w'∧match o with
 |some d=>∃v bl,e= .returned (.tuple #[v,.nilIface])∧NdV w' w.heap.size bl d v∧bl.Nodup
 |none=>∃t v,e= .returned (.tuple #[.agg cM.toArray,.iface t v])
theorem gV:∀{l:List Tm.Ty},gB l→(l.map (·.name)).Nodup
 |[],_=>by simp
 |t::r,h=>by
  rw[List.map_cons,List.nodup_cons];exact⟨h.1,gV h.2.2⟩
theorem fU(tys:List Tm.Ty)(root s:Tm.Wd)(w:World)(rb cap B:Nat)(a:Option Addr)(vs:List Value)(ho:ak w B 97 3 a tys.length cap vs)(he:Tm.cI w rb tys vs)(hF:∀t∈tys,Tm.bg t∧Tm.Its.sz t.items≤100000)(hn:tys.length≤100)(hch:gB tys.reverse)
  (hr:root.length≤200000000000000)(hs:s.length≤1000000):Calls Tryz.prog 9 #[.slice a tys.length cap,.string (aa root),.string (aa s)] w (gU w (aw tys root s)):=by
 have hnd:(tys.map (·.name)).Nodup:=by
  have:=gV hch;rw[List.map_reverse]at this;exact(List.pairwise_reverse.1 this).imp (fun h=>Ne.symm h)
 have hfo:=fun W (hW:Below w.heap.size w W)=>lF tys w W hW rb cap B a vs ho he (fun t ht=>(hF t ht).1) hn hnd
 obtain⟨n,hn'⟩:∃n,n=tys.length:=⟨_,rfl⟩;rw[← hn']at hfo⊢;obtain⟨W3,hW3⟩:∃W3,W3=((w.alloc (.cells #[.string (aa root)] 9)).alloc (.cells #[.string (aa s)] 9)).alloc (.cells #[.string {data:= #[]},.int .i64 0,.int .i64 0,.int .i64 0,.int .i64 0,.string {data:= #[]},.slice none 0 0] 28):=⟨_,rfl⟩;have hb3:Below w.heap.size w W3:=by rw[hW3];exact(((Y4 _ _).alloc (Z5 _) _).alloc (by simp) _).alloc (by simp;omega) _
 have h30:ae W3 w.heap.size 0 9 [.string (aa root)]:=by rw[hW3];exact((ae.new w _ _).alloc _).alloc _
 have h31:ae W3 (w.heap.size+1) 0 9 [.string (aa s)]:=by rw[hW3];exact(ae.iI _ _ (by simp) _ _).alloc _
 have h32:ae W3 (w.heap.size+1+1) 0 28 cM:=by rw[hW3];exact ae.iI _ _ (by simp) _ _
 have HFO:=hid hfo;have H3:=hid (And.intro hb3 (And.intro h30 (And.intro h31 h32)));have HW3:=hid hW3;have hc1:=h31.cell0 0 (by simp);simp only[Z0]at hc1;have HB3:=hid hb3;have HLT:=hid (show w.heap.size+1 < W3.heap.size from h31.lt);clear hfo ho he hn' hW3 hb3 h30 h31 h32 hnd;go_enter Tryz.func9,Tryz.ntmps9
 go_upto_region 1 with fail
 rw[← HW3.out];go_cut [8]from 13 to 17 (fun v8 wr=>∃cr,v8= .pointer (some ⟨cr,0,none⟩)∧Hid (RsS w wr rb tys root s cr))
 case first=>
  refine wp_region_any (by kernel_rfl) ?_
  try(change wpAny _ _ _ _ _ _ _ (World.drew _))
  refine wpAny_take (i:=0) (v:= ?_) rfl (by kernel_rfl) (by kernel_rfl) (by kernel_rfl) (fun _ _ _ h=>h) (Or.inl ⟨by kernel_rfl,?_⟩) ?_
  rotate_left
  ·(intro w;go_simp) <;> with_reducible rfl
  try dsimp only[Act.put]
  try simp only[Act.put,Z4,Z2,Z3]
  refine wpAny_ready (rs:=[1,2,5]) (by kernel_rfl) (by simp) ?_;refine AllReady.cons rfl (fun K2 hK=> ?_) (AllReady.cons rfl (fun K2 hK=> ?_) (AllReady.cons rfl (fun K2 hK=> ?_) AllReady.nil))
  ·go_simp;refine(HFO.out _ (HB3.out.drew)).mono ?_;rintro e w4 ⟨rfl,hb4,hf4⟩;have HB4:=hid hb4;have HF4:=hid hf4;have c1:w4.cell? ⟨w.heap.size+1,0,none⟩=some (.string (aa s)):=(hb4.cell (by have:=HLT.out;simp <;> omega)).trans (by first|exact hc1|exact((World.cell?_of_block (Below.heap_alloc _ _ _ HLT.out)).trans hc1));clear hb4 hf4;go_simp;refine hK _ _ ?_;clear hK K2
   try simp only[Act.put,Z4,Z2,Z3]
   refine wpAny_ready (rs:=[2,5]) (by kernel_rfl) (by simp) ?_;refine AllReady.cons rfl (fun K2 hK=> ?_) (AllReady.cons rfl (fun K2 hK=> ?_) AllReady.nil)
   ·go_simp;refine hK _ _ ?_;clear hK K2
    try simp only[Act.put,Z4,Z2,Z3]
    refine wpAny_take (i:=3) (v:= ?_) rfl (by kernel_rfl) (by kernel_rfl) (by kernel_rfl) (fun _ _ _ h=>h) (Or.inl ⟨by kernel_rfl,?_⟩) ?_
    rotate_left
    ·(intro w;go_simp) <;> with_reducible rfl
    try dsimp only[Act.put]
    try simp only[Act.put,Z4,Z2,Z3]
    refine wpAny_ready (rs:=[4,5]) (by kernel_rfl) (by simp) ?_;refine AllReady.cons rfl (fun K2 hK=> ?_) (AllReady.cons rfl (fun K2 hK=> ?_) AllReady.nil)
    ·go_simp;refine hK _ _ ?_;clear hK K2
     try simp only[Act.put,Z4,Z2,Z3]
     refine wpAny_ready (rs:=[5]) (by kernel_rfl) (by simp) ?_;refine AllReady.cons rfl (fun K2 hK=> ?_) AllReady.nil
     ·go_simp;refine hK _ _ ?_;clear hK K2
      try simp only[Act.put,Z4,Z2,Z3]
      refine wpAny_ready (rs:=[6]) (by kernel_rfl) (by simp) ?_;refine AllReady.cons rfl (fun K2 hK=> ?_) AllReady.nil;go_simp;refine hK _ _ ?_;clear hK K2
      try simp only[Act.put,Z4,Z2,Z3]
      refine wpAny_done (by kernel_rfl) ?_ _;go_wp2_with fail;go_meet
      first
       |exact⟨_,rfl,hid (RsS.mkA H3.out HB4.out HF4.out)⟩
       |exact⟨_,rfl,hid (RsS.mkB H3.out HB4.out HF4.out)⟩
       |exact⟨_,rfl,hid (RsS.mkC H3.out H9.out HB4.out HF4.out)⟩
    ·go_simp;refine hK _ _ ?_;clear hK K2
     try simp only[Act.put,Z4,Z2,Z3]
     refine wpAny_ready (rs:=[4]) (by kernel_rfl) (by simp) ?_;refine AllReady.cons rfl (fun K2 hK=> ?_) AllReady.nil
     ·go_simp;refine hK _ _ ?_;clear hK K2
      try simp only[Act.put,Z4,Z2,Z3]
      refine wpAny_ready (rs:=[6]) (by kernel_rfl) (by simp) ?_;refine AllReady.cons rfl (fun K2 hK=> ?_) AllReady.nil;go_simp;refine hK _ _ ?_;clear hK K2
      try simp only[Act.put,Z4,Z2,Z3]
      refine wpAny_done (by kernel_rfl) ?_ _;go_wp2_with fail;go_meet
      first
       |exact⟨_,rfl,hid (RsS.mkA H3.out HB4.out HF4.out)⟩
       |exact⟨_,rfl,hid (RsS.mkB H3.out HB4.out HF4.out)⟩
       |exact⟨_,rfl,hid (RsS.mkC H3.out H9.out HB4.out HF4.out)⟩
   ·go_simp;have c1b:(w4.alloc (.cells #[.pointer none] 57)).cell? ⟨w.heap.size+1,0,none⟩=some (.string (aa s)):=(World.cell?_of_block (Below.heap_alloc _ _ _ (show w.heap.size+1 < w4.heap.size by have:=HLT.out;have h2:=HB4.out.size;simp at h2;omega))).trans c1;refine hK _ _ ?_;clear hK K2
    try simp only[Act.put,Z4,Z2,Z3]
    refine wpAny_ready (rs:=[2]) (by kernel_rfl) (by simp) ?_;refine AllReady.cons rfl (fun K2 hK=> ?_) AllReady.nil
    ·go_simp;refine hK _ _ ?_;clear hK K2
     try simp only[Act.put,Z4,Z2,Z3]
     refine wpAny_take (i:=3) (v:= ?_) rfl (by kernel_rfl) (by kernel_rfl) (by kernel_rfl) (fun _ _ _ h=>h) (Or.inl ⟨by kernel_rfl,?_⟩) ?_
     rotate_left
     ·(intro w;go_simp) <;> with_reducible rfl
     try dsimp only[Act.put]
     try simp only[Act.put,Z4,Z2,Z3]
     refine wpAny_ready (rs:=[4]) (by kernel_rfl) (by simp) ?_;refine AllReady.cons rfl (fun K2 hK=> ?_) AllReady.nil
     ·go_simp;refine hK _ _ ?_;clear hK K2
      try simp only[Act.put,Z4,Z2,Z3]
      refine wpAny_ready (rs:=[6]) (by kernel_rfl) (by simp) ?_;refine AllReady.cons rfl (fun K2 hK=> ?_) AllReady.nil;go_simp;refine hK _ _ ?_;clear hK K2
      try simp only[Act.put,Z4,Z2,Z3]
      refine wpAny_done (by kernel_rfl) ?_ _;go_wp2_with fail;go_meet
      first
       |exact⟨_,rfl,hid (RsS.mkA H3.out HB4.out HF4.out)⟩
       |exact⟨_,rfl,hid (RsS.mkB H3.out HB4.out HF4.out)⟩
       |exact⟨_,rfl,hid (RsS.mkC H3.out H9.out HB4.out HF4.out)⟩
  ·go_simp;refine hK _ _ ?_;clear hK K2
   try simp only[Act.put,Z4,Z2,Z3]
   refine wpAny_ready (rs:=[1,5]) (by kernel_rfl) (by simp) ?_;refine AllReady.cons rfl (fun K2 hK=> ?_) (AllReady.cons rfl (fun K2 hK=> ?_) AllReady.nil)
   ·go_simp;refine(HFO.out _ (HB3.out.drew)).mono ?_;rintro e w4 ⟨rfl,hb4,hf4⟩;have HB4:=hid hb4;have HF4:=hid hf4;have c1:w4.cell? ⟨w.heap.size+1,0,none⟩=some (.string (aa s)):=(hb4.cell (by have:=HLT.out;simp <;> omega)).trans (by first|exact hc1|exact((World.cell?_of_block (Below.heap_alloc _ _ _ HLT.out)).trans hc1));clear hb4 hf4;go_simp;refine hK _ _ ?_;clear hK K2
    try simp only[Act.put,Z4,Z2,Z3]
    refine wpAny_take (i:=3) (v:= ?_) rfl (by kernel_rfl) (by kernel_rfl) (by kernel_rfl) (fun _ _ _ h=>h) (Or.inl ⟨by kernel_rfl,?_⟩) ?_
    rotate_left
    ·(intro w;go_simp) <;> with_reducible rfl
    try dsimp only[Act.put]
    try simp only[Act.put,Z4,Z2,Z3]
    refine wpAny_ready (rs:=[4,5]) (by kernel_rfl) (by simp) ?_;refine AllReady.cons rfl (fun K2 hK=> ?_) (AllReady.cons rfl (fun K2 hK=> ?_) AllReady.nil)
    ·go_simp;refine hK _ _ ?_;clear hK K2
     try simp only[Act.put,Z4,Z2,Z3]
     refine wpAny_ready (rs:=[5]) (by kernel_rfl) (by simp) ?_;refine AllReady.cons rfl (fun K2 hK=> ?_) AllReady.nil
     ·go_simp;refine hK _ _ ?_;clear hK K2
      try simp only[Act.put,Z4,Z2,Z3]
      refine wpAny_ready (rs:=[6]) (by kernel_rfl) (by simp) ?_;refine AllReady.cons rfl (fun K2 hK=> ?_) AllReady.nil;go_simp;refine hK _ _ ?_;clear hK K2
      try simp only[Act.put,Z4,Z2,Z3]
      refine wpAny_done (by kernel_rfl) ?_ _;go_wp2_with fail;go_meet
      first
       |exact⟨_,rfl,hid (RsS.mkA H3.out HB4.out HF4.out)⟩
       |exact⟨_,rfl,hid (RsS.mkB H3.out HB4.out HF4.out)⟩
       |exact⟨_,rfl,hid (RsS.mkC H3.out H9.out HB4.out HF4.out)⟩
    ·go_simp;refine hK _ _ ?_;clear hK K2
     try simp only[Act.put,Z4,Z2,Z3]
     refine wpAny_ready (rs:=[4]) (by kernel_rfl) (by simp) ?_;refine AllReady.cons rfl (fun K2 hK=> ?_) AllReady.nil
     ·go_simp;refine hK _ _ ?_;clear hK K2
      try simp only[Act.put,Z4,Z2,Z3]
      refine wpAny_ready (rs:=[6]) (by kernel_rfl) (by simp) ?_;refine AllReady.cons rfl (fun K2 hK=> ?_) AllReady.nil;go_simp;refine hK _ _ ?_;clear hK K2
      try simp only[Act.put,Z4,Z2,Z3]
      refine wpAny_done (by kernel_rfl) ?_ _;go_wp2_with fail;go_meet
      first
       |exact⟨_,rfl,hid (RsS.mkA H3.out HB4.out HF4.out)⟩
       |exact⟨_,rfl,hid (RsS.mkB H3.out HB4.out HF4.out)⟩
       |exact⟨_,rfl,hid (RsS.mkC H3.out H9.out HB4.out HF4.out)⟩
   ·go_simp;refine hK _ _ ?_;clear hK K2
    try simp only[Act.put,Z4,Z2,Z3]
    refine wpAny_ready (rs:=[1]) (by kernel_rfl) (by simp) ?_;refine AllReady.cons rfl (fun K2 hK=> ?_) AllReady.nil
    ·go_simp;refine(HFO.out _ ((HB3.out.drew).alloc (by have:=HB3.out.size;exact this) _)).mono ?_;rintro e w4 ⟨rfl,hb4,hf4⟩;have HB4:=hid hb4;have HF4:=hid hf4;have c1:w4.cell? ⟨w.heap.size+1,0,none⟩=some (.string (aa s)):=(hb4.cell (by have:=HLT.out;simp <;> omega)).trans (by first|exact hc1|exact((World.cell?_of_block (Below.heap_alloc _ _ _ HLT.out)).trans hc1));have h9:ae w4 W3.heap.size 0 57 [.pointer none]:=ae.below (w:=W3.drew.alloc (.cells #[.pointer none] 57)) (ae.new W3.drew _ _) hb4 (ae.lt (ae.new W3.drew 57 #[.pointer none]));have c9:=h9.cell0 0 (by simp);have z9:=h9.frozen0 0 (by simp);simp only[Z0]at c9;have H9:=hid h9;clear h9;clear hb4 hf4;go_simp;refine hK _ _ ?_;clear hK K2
     try simp only[Act.put,Z4,Z2,Z3]
     refine wpAny_take (i:=3) (v:= ?_) rfl (by kernel_rfl) (by kernel_rfl) (by kernel_rfl) (fun _ _ _ h=>h) (Or.inl ⟨by kernel_rfl,?_⟩) ?_
     rotate_left
     ·(intro w;go_simp) <;> with_reducible rfl
     try dsimp only[Act.put]
     try simp only[Act.put,Z4,Z2,Z3]
     refine wpAny_ready (rs:=[4]) (by kernel_rfl) (by simp) ?_;refine AllReady.cons rfl (fun K2 hK=> ?_) AllReady.nil
     ·go_simp;have h9b:=H9.out.alloc (.cells #[.map (some (W3.heap.size+1)),.string (aa s),.int .i64 0,.int .i64 0] 62);have c9b:=h9b.cell0 0 (by simp);have z9b:=h9b.frozen0 0 (by simp);simp only[Z0]at c9b;clear h9b;refine hK _ _ ?_;clear hK K2
      try simp only[Act.put,Z4,Z2,Z3]
      refine wpAny_ready (rs:=[6]) (by kernel_rfl) (by simp) ?_;refine AllReady.cons rfl (fun K2 hK=> ?_) AllReady.nil;go_simp;refine hK _ _ ?_;clear hK K2
      try simp only[Act.put,Z4,Z2,Z3]
      refine wpAny_done (by kernel_rfl) ?_ _;go_wp2_with fail;go_meet
      first
       |exact⟨_,rfl,hid (RsS.mkA H3.out HB4.out HF4.out)⟩
       |exact⟨_,rfl,hid (RsS.mkB H3.out HB4.out HF4.out)⟩
       |exact⟨_,rfl,hid (RsS.mkC H3.out H9.out HB4.out HF4.out)⟩
  ·go_simp;have c1b:(W3.alloc (.cells #[.pointer none] 57)).cell? ⟨w.heap.size+1,0,none⟩=some (.string (aa s)):=(World.cell?_of_block (Below.heap_alloc _ _ _ HLT.out)).trans hc1;refine hK _ _ ?_;clear hK K2
   try simp only[Act.put,Z4,Z2,Z3]
   refine wpAny_ready (rs:=[1,2]) (by kernel_rfl) (by simp) ?_;refine AllReady.cons rfl (fun K2 hK=> ?_) (AllReady.cons rfl (fun K2 hK=> ?_) AllReady.nil)
   ·go_simp;refine(HFO.out _ ((HB3.out.drew).alloc (by have:=HB3.out.size;exact this) _)).mono ?_;rintro e w4 ⟨rfl,hb4,hf4⟩;have HB4:=hid hb4;have HF4:=hid hf4;have c1:w4.cell? ⟨w.heap.size+1,0,none⟩=some (.string (aa s)):=(hb4.cell (by have:=HLT.out;simp <;> omega)).trans (by first|exact hc1|exact((World.cell?_of_block (Below.heap_alloc _ _ _ HLT.out)).trans hc1));have h9:ae w4 W3.heap.size 0 57 [.pointer none]:=ae.below (w:=W3.drew.alloc (.cells #[.pointer none] 57)) (ae.new W3.drew _ _) hb4 (ae.lt (ae.new W3.drew 57 #[.pointer none]));have c9:=h9.cell0 0 (by simp);have z9:=h9.frozen0 0 (by simp);simp only[Z0]at c9;have H9:=hid h9;clear h9;clear hb4 hf4;go_simp;refine hK _ _ ?_;clear hK K2
    try simp only[Act.put,Z4,Z2,Z3]
    refine wpAny_ready (rs:=[2]) (by kernel_rfl) (by simp) ?_;refine AllReady.cons rfl (fun K2 hK=> ?_) AllReady.nil
    ·go_simp;refine hK _ _ ?_;clear hK K2
     try simp only[Act.put,Z4,Z2,Z3]
     refine wpAny_take (i:=3) (v:= ?_) rfl (by kernel_rfl) (by kernel_rfl) (by kernel_rfl) (fun _ _ _ h=>h) (Or.inl ⟨by kernel_rfl,?_⟩) ?_
     rotate_left
     ·(intro w;go_simp) <;> with_reducible rfl
     try dsimp only[Act.put]
     try simp only[Act.put,Z4,Z2,Z3]
     refine wpAny_ready (rs:=[4]) (by kernel_rfl) (by simp) ?_;refine AllReady.cons rfl (fun K2 hK=> ?_) AllReady.nil
     ·go_simp;have h9b:=H9.out.alloc (.cells #[.map (some (W3.heap.size+1)),.string (aa s),.int .i64 0,.int .i64 0] 62);have c9b:=h9b.cell0 0 (by simp);have z9b:=h9b.frozen0 0 (by simp);simp only[Z0]at c9b;clear h9b;refine hK _ _ ?_;clear hK K2
      try simp only[Act.put,Z4,Z2,Z3]
      refine wpAny_ready (rs:=[6]) (by kernel_rfl) (by simp) ?_;refine AllReady.cons rfl (fun K2 hK=> ?_) AllReady.nil;go_simp;refine hK _ _ ?_;clear hK K2
      try simp only[Act.put,Z4,Z2,Z3]
      refine wpAny_done (by kernel_rfl) ?_ _;go_wp2_with fail;go_meet
      first
       |exact⟨_,rfl,hid (RsS.mkA H3.out HB4.out HF4.out)⟩
       |exact⟨_,rfl,hid (RsS.mkB H3.out HB4.out HF4.out)⟩
       |exact⟨_,rfl,hid (RsS.mkC H3.out H9.out HB4.out HF4.out)⟩
   ·go_simp;refine hK _ _ ?_;clear hK K2
    try simp only[Act.put,Z4,Z2,Z3]
    refine wpAny_ready (rs:=[1]) (by kernel_rfl) (by simp) ?_;refine AllReady.cons rfl (fun K2 hK=> ?_) AllReady.nil
    ·go_simp;refine(HFO.out _ ((HB3.out.drew).alloc (by have:=HB3.out.size;exact this) _)).mono ?_;rintro e w4 ⟨rfl,hb4,hf4⟩;have HB4:=hid hb4;have HF4:=hid hf4;have c1:w4.cell? ⟨w.heap.size+1,0,none⟩=some (.string (aa s)):=(hb4.cell (by have:=HLT.out;simp <;> omega)).trans (by first|exact hc1|exact((World.cell?_of_block (Below.heap_alloc _ _ _ HLT.out)).trans hc1));have h9:ae w4 W3.heap.size 0 57 [.pointer none]:=ae.below (w:=W3.drew.alloc (.cells #[.pointer none] 57)) (ae.new W3.drew _ _) hb4 (ae.lt (ae.new W3.drew 57 #[.pointer none]));have c9:=h9.cell0 0 (by simp);have z9:=h9.frozen0 0 (by simp);simp only[Z0]at c9;have H9:=hid h9;clear h9;clear hb4 hf4;go_simp;refine hK _ _ ?_;clear hK K2
     try simp only[Act.put,Z4,Z2,Z3]
     refine wpAny_take (i:=3) (v:= ?_) rfl (by kernel_rfl) (by kernel_rfl) (by kernel_rfl) (fun _ _ _ h=>h) (Or.inl ⟨by kernel_rfl,?_⟩) ?_
     rotate_left
     ·(intro w;go_simp) <;> with_reducible rfl
     try dsimp only[Act.put]
     try simp only[Act.put,Z4,Z2,Z3]
     refine wpAny_ready (rs:=[4]) (by kernel_rfl) (by simp) ?_;refine AllReady.cons rfl (fun K2 hK=> ?_) AllReady.nil
     ·go_simp;have h9b:=H9.out.alloc (.cells #[.map (some (W3.heap.size+1)),.string (aa s),.int .i64 0,.int .i64 0] 62);have c9b:=h9b.cell0 0 (by simp);have z9b:=h9b.frozen0 0 (by simp);simp only[Z0]at c9b;clear h9b;refine hK _ _ ?_;clear hK K2
      try simp only[Act.put,Z4,Z2,Z3]
      refine wpAny_ready (rs:=[6]) (by kernel_rfl) (by simp) ?_;refine AllReady.cons rfl (fun K2 hK=> ?_) AllReady.nil;go_simp;refine hK _ _ ?_;clear hK K2
      try simp only[Act.put,Z4,Z2,Z3]
      refine wpAny_done (by kernel_rfl) ?_ _;go_wp2_with fail;go_meet
      first
       |exact⟨_,rfl,hid (RsS.mkA H3.out HB4.out HF4.out)⟩
       |exact⟨_,rfl,hid (RsS.mkB H3.out HB4.out HF4.out)⟩
       |exact⟨_,rfl,hid (RsS.mkC H3.out H9.out HB4.out HF4.out)⟩
 case rest=>
  obtain⟨cr,rfl,HM⟩:=hcut;obtain⟨fb,b,hbw,hfm,hlr,hcr⟩:=HM.out.rd;have HRD:=hid (And.intro hbw (And.intro hfm (And.intro hlr hcr)));have k1:=hcr.cell0 0 (by simp);have k2:=hlr.row.cell0 0 (by simp);have k3:=HM.out.r0.cell0 0 (by simp);simp only[Z0]at k1 k2 k3;obtain⟨lv,hlk⟩:=hfm.look_ok hr;have hlk0:∀j,(Instr.lookup 59 (.map (some fb)) (.string (aa root)) true).run Tryz.prog (wc.drewN j)= .ok (.tuple #[lv,.bool (decide (root∈names tys))]) (wc.drewN j):=fun j=>hlk _ rfl
  clear hbw hfm hlr hcr hlk HFO HW3 H3 HB3 HLT hc1
  by_cases hroot:root∈names tys
  ·have q1:decide (root∈names tys)=true:=Z9 hroot;rw[q1]at hlk0;have HROOT:=hid hroot;clear hroot q1;go_wp2_with fail;go_quiet (fail);clear k1 k2 k3 hlk0;obtain⟨V,hV⟩:∃V,V=wc.drewN nq:=⟨_,rfl⟩;rw[← hV];have hbV:Below wc.heap.size wc V:=by rw[hV];exact fy (Y4 _ _) _
   have HBV:=hid hbV;obtain⟨V1,hV1⟩:∃V1,V1=V.alloc (.cells #[.string {data:= #[]},.int .i64 0,.int .i64 0,.int .i64 0,.int .i64 0,.string {data:= #[]},.slice none 0 0] 28):=⟨_,rfl⟩;have hbV1:Below V.heap.size V V1:=by rw[hV1];exact(Y4 _ _).alloc (Z5 _) _
   have hcn:ae V1 V.heap.size 0 28 cM:=by rw[hV1];exact ae.new V _ _
   have hb1:Below wc.heap.size wc V1:=hbV.trans (hbV1.mono hbV.size);have hrs:RcS w V1 rb fb b tys root s cr w.heap.size V.heap.size (w.heap.size+1):=⟨HM.out.bel.trans (hb1.mono HM.out.bel.size),HRD.out.1,HRD.out.2.1.an (hb1.block _ HRD.out.2.1.lt),HRD.out.2.2.1.an (hb1.block _ HRD.out.2.2.1.row.lt),HRD.out.2.2.2.below hb1 HRD.out.2.2.2.lt,HM.out.r0.below hb1 HM.out.r0.lt,hcn,HM.out.r1.below hb1 HM.out.r1.lt⟩;have hrs2:=hrs.up ((Y4 V1.heap.size V1).alloc (Z5 _) (.cells #[.nilIface] 30));have hsub:=xr tys s hs hF tys.reverse (fun t ht=>List.mem_reverse.1 ht) hch root (by rw[nS];exact HROOT.out);have hcall:=Dv w _ rb fb b tys root s cr w.heap.size V.heap.size (w.heap.size+1) hrs2 hsub hs;have hCL:Calls Tryz.prog 29 #[.pointer (some ⟨cr,0,none⟩),.pointer (some ⟨w.heap.size,0,none⟩),.pointer (some ⟨V.heap.size,0,none⟩),.pointer (some ⟨w.heap.size+1,0,none⟩)] (V1.alloc (.cells #[.nilIface] 30))
     (dA V1 (fun w1=>Two (V1.alloc (.cells #[.nilIface] 30)) w1 b V.heap.size∧∃d ga cap bs b1,aw tys root s=some d∧ae w1 V.heap.size 0 28 (ab d.name d.kind d.at_ d.size d.val d.text (.slice ga d.kids.len cap))∧ak w1 (V1.heap.size+1) 28 7 ga d.kids.len cap bs∧aU w1 (V1.heap.size+1) d.kids b1 bs∧(aB ga++b1).Nodup)
      (fun w1=>Two (V1.alloc (.cells #[.nilIface] 30)) w1 b V.heap.size∧aw tys root s=none)):=by
    refine hcall.mono ?_;rintro e w1 ⟨h2,h3⟩;have hne1:V1.heap.size≠b:=by have:=hrs.lr.row.lt;omega
    have hne2:V1.heap.size≠V.heap.size:=by have:=hcn.lt;omega
    refine⟨h2.block V1.heap.size (by simp) hne1 hne2,?_⟩;cases ho:aw tys root s with
    |none=>rw[ho]at h3;exact .inr ⟨h3,h2,rfl⟩
    |some d=>
     rw[ho]at h3;obtain⟨he,ga,cap,bs,b1,g1,g2,g3,g4⟩:=h3;have hz:(V1.alloc (.cells #[.nilIface] 30)).heap.size=V1.heap.size+1:=by simp
     rw[hz]at g2 g3;exact .inl ⟨he,h2,d,ga,cap,bs,b1,rfl,g1,g2,g3,g4⟩
   have HCA:=hid (xu (.pointer (some ⟨cr,0,none⟩)) (.pointer (some ⟨w.heap.size,0,none⟩)) (.pointer (some ⟨V.heap.size,0,none⟩)) (.pointer (some ⟨w.heap.size+1,0,none⟩)) V1 _ _ hCL);have HRS:=hid hrs;have HVV:=hid (And.intro hbV hbV1);have HV1:=hid hV1;have hcnl:=hcn.lt;have HCN:=hid hcnl;clear hV hbV hrs hrs2 hsub hcall hCL hV1 hbV1 hb1 hcn hcnl;go_wp2_with fail;rw[← HV1.out];refine HCA.out.mono ?_;unfold fT;rintro e w' (⟨rfl,w1,⟨h2,d,ga,cap,bs,b1,ho,g1,g2,g3,g4⟩,rfl⟩|⟨t,v,rfl,w1,o,⟨h2,ho⟩,rfl⟩)
   ·obtain⟨X,hX⟩:∃X,X=w1.setCell ⟨V1.heap.size,0,none⟩ .nilIface:=⟨_,rfl⟩;rw[← hX];have hfar:∀g:Nat,g≠V1.heap.size→X.heap[g]? =w1.heap[g]? :=fun g hg=>by rw[hX];exact Below.heap_setCell _ _ _ _ hg
    have hVV:=HVV.out.1.size;have hVV1:=HVV.out.2.size;have hcl:=HCN.out;have hwc:=HM.out.bel.size;have hr2l:=HM.out.r2.lt;have hbb:=HRD.out.1;have hrow:ae X V.heap.size 0 28 [.string (aa d.name),.int .i64 (d.kind:Nat),.int .i64 (d.at_:Nat),.int .i64 (d.size:Nat),.int .i64 d.val,.string (aa d.text),.slice ga d.kids.len cap]:=g1.of_heap (hfar _ (by omega));have hz1:X.heap.size=w1.heap.size:=by rw[hX];exact World.size_setCell ..
    have hbX:Below w.heap.size w X:=by
     have e1:Below w.heap.size w V1:=HRS.out.bel;have e2:Below w.heap.size w w1:=Two.below (e1.alloc e1.size _) h2 (by simp;omega) hbb (by omega);rw[hX];exact e2.setCell (p:=⟨V1.heap.size,0,none⟩) (show w.heap.size≤V1.heap.size by omega) _
    have hres:ae X (w.heap.size+1+1) 0 28 cM:=by
     have e1:ae V1 (w.heap.size+1+1) 0 28 cM:=(HM.out.r2.below HVV.out.1 HM.out.r2.lt).below HVV.out.2 (by omega);have hnb:w.heap.size+1+1≠b:=by
      rintro rfl;exact absurd (e1.ty HRS.out.lr.row) (by decide)
     exact((e1.alloc _).of_heap (h2.block _ (by simp;omega) hnb (by omega))).of_heap (hfar _ (by omega))
    have r0:=hrow.cell0 0 (by simp);have r1:=hrow.cell0 1 (by simp);have r2:=hrow.cell0 2 (by simp);have r3:=hrow.cell0 3 (by simp);have r4:=hrow.cell0 4 (by simp);have r5:=hrow.cell0 5 (by simp);have r6:=hrow.cell0 6 (by simp);simp only[Z0,Z1]at r0 r1 r2 r3 r4 r5 r6;have y0:=hres.cell0 0 (by simp);have z0:=hres.frozen0 0 (by simp);have y1:=hres.cell0 1 (by simp);have z1:=hres.frozen0 1 (by simp);have y2:=hres.cell0 2 (by simp);have z2:=hres.frozen0 2 (by simp);have y3:=hres.cell0 3 (by simp);have z3:=hres.frozen0 3 (by simp);have y4:=hres.cell0 4 (by simp);have z4:=hres.frozen0 4 (by simp);have y5:=hres.cell0 5 (by simp);have z5:=hres.frozen0 5 (by simp);have y6:=hres.cell0 6 (by simp);have z6:=hres.frozen0 6 (by simp);simp only[Z0,Z1]at y0 y1 y2 y3 y4 y5 y6;have hoX:ak X (V1.heap.size+1) 28 7 ga d.kids.len cap bs:=g2.an (w':=X) fun x hx=>hfar x.block (by subst hx;have:=g2.lt;omega)
    have heX:aU X (V1.heap.size+1) d.kids b1 bs:=g3.an (w':=X) _ _ _ (fun k hk=>hfar k (by have:=g3.mem _ _ _ k hk;omega));have HOX:=hid hoX;have HEX:=hid heX;have HND:=hid g4;have HO:=hid ho;have HBX:=hid hbX;have HRES:=hid hres;have HLE:=hid (show w.heap.size+1+1 < V1.heap.size by omega);clear h2 ho g1 g2 g3 g4 hX hfar hVV hVV1 hcl hwc hr2l hbb hrow hz1 hbX hres hoX heX;go_wp2_with fail;clear r0 r1 r2 r3 r4 r5 r6;have p0:=HRES.out.ax 0 (by simp) (.string (aa d.name));have r0:=p0.cell0 0 (by simp);have p1:=p0.ax 1 (by simp) (.int .i64 (d.kind:Nat));have r1:=p1.cell0 1 (by simp);have p2:=p1.ax 2 (by simp) (.int .i64 (d.at_:Nat));have r2:=p2.cell0 2 (by simp);have p3:=p2.ax 3 (by simp) (.int .i64 (d.size:Nat));have r3:=p3.cell0 3 (by simp);have p4:=p3.ax 4 (by simp) (.int .i64 d.val);have r4:=p4.cell0 4 (by simp);have p5:=p4.ax 5 (by simp) (.string (aa d.text));have r5:=p5.cell0 5 (by simp);have p6:=p5.ax 6 (by simp) (.slice ga d.kids.len cap);have r6:=p6.cell0 6 (by simp);simp only[Z2,Z3,Z0,Z1]at r0 r1 r2 r3 r4 r5 r6;clear p0 p1 p2 p3 p4 p5 p6;refine bodyPost_ret (v:= .tuple #[.agg #[.string (aa d.name),.int .i64 (d.kind:Nat),.int .i64 (d.at_:Nat),.int .i64 (d.size:Nat),.int .i64 d.val,.string (aa d.text),.slice ga d.kids.len cap],.nilIface]) (by simp[results,Tryz.results9,go_sem,r0,r1,r2,r3,r4,r5,r6];first|done|rfl) rfl ?_;have hb7:=nT (w0:=w) (w:=X) HBX.out (b:=w.heap.size+1+1) (by omega) (.string (aa d.name)) (.int .i64 (d.kind:Nat)) (.int .i64 (d.at_:Nat)) (.int .i64 (d.size:Nat)) (.int .i64 d.val) (.string (aa d.text)) (.slice ga d.kids.len cap);refine⟨hb7,?_⟩;rw[HO.out];refine⟨_,aB ga++b1,rfl,⟨ga,cap,bs,b1,rfl,rfl,?_,?_⟩,HND.out⟩
    ·exact(HOX.out.an fun x hx=>dz _ _ _ _ _ _ _ _ (by have:=HOX.out;subst hx;have h9:=this.lt;have h8:=HLE.out;omega)).mono (by have:=HLE.out;omega)
    ·exact(HEX.out.an _ _ _ (fun k hk=>dz _ _ _ _ _ _ _ _ (by have h9:=HEX.out.mem _ _ _ k hk;have h8:=HLE.out;omega))).low (by have:=HLE.out;omega) _ _ _
   ·obtain⟨X,hX⟩:∃X,X=(w1.setCell ⟨V1.heap.size,0,none⟩ (.iface t v)).alloc o:=⟨_,rfl⟩;rw[← hX];have hVV:=HVV.out.1.size;have hVV1:=HVV.out.2.size;have hcl:=HCN.out;have hwc:=HM.out.bel.size;have hr2l:=HM.out.r2.lt;have hbb:=HRD.out.1;have hz1:(w1.setCell ⟨V1.heap.size,0,none⟩ (.iface t v)).heap.size=w1.heap.size:=World.size_setCell ..
    have hfar:∀g:Nat,g < w1.heap.size→g≠V1.heap.size→X.heap[g]? =w1.heap[g]? :=fun g h9 hg=>by
     rw[hX];exact(Below.heap_alloc _ _ _ (by rw[hz1];exact h9)).trans (Below.heap_setCell _ _ _ _ hg)
    have e1:Below w.heap.size w V1:=HRS.out.bel;have hbX:Below w.heap.size w X:=by
     have e2:Below w.heap.size w w1:=Two.below (e1.alloc e1.size _) h2 (by simp;omega) hbb (by omega);rw[hX];exact(e2.setCell (p:=⟨V1.heap.size,0,none⟩) (show w.heap.size≤V1.heap.size by omega) _).alloc (by rw[hz1];exact e2.size) _
    have hs12:V1.heap.size+1≤w1.heap.size:=by have:=h2.size;simpa using this
    have hres:ae X (w.heap.size+1+1) 0 28 cM:=by
     have e1:ae V1 (w.heap.size+1+1) 0 28 cM:=(HM.out.r2.below HVV.out.1 HM.out.r2.lt).below HVV.out.2 (by omega);have hnb:w.heap.size+1+1≠b:=by
      rintro rfl;exact absurd (e1.ty HRS.out.lr.row) (by decide)
     exact((e1.alloc _).of_heap (h2.block _ (by simp;omega) hnb (by omega))).of_heap (hfar _ (by omega) (by omega))
    have y0:=hres.cell0 0 (by simp);have z0:=hres.frozen0 0 (by simp);have y1:=hres.cell0 1 (by simp);have z1:=hres.frozen0 1 (by simp);have y2:=hres.cell0 2 (by simp);have z2:=hres.frozen0 2 (by simp);have y3:=hres.cell0 3 (by simp);have z3:=hres.frozen0 3 (by simp);have y4:=hres.cell0 4 (by simp);have z4:=hres.frozen0 4 (by simp);have y5:=hres.cell0 5 (by simp);have z5:=hres.frozen0 5 (by simp);have y6:=hres.cell0 6 (by simp);have z6:=hres.frozen0 6 (by simp);simp only[Z0,Z1]at y0 y1 y2 y3 y4 y5 y6;have HO:=hid ho;have HBX:=hid hbX;have HRES:=hid hres;clear h2 ho hX hfar hVV hVV1 hcl hwc hr2l hbb hz1 hbX hres e1 hs12;go_wp2_with fail;have p0:=HRES.out.ax 0 (by simp) (.string {data:= #[]});have r0:=p0.cell0 0 (by simp);have p1:=p0.ax 1 (by simp) (.int .i64 0);have r1:=p1.cell0 1 (by simp);have p2:=p1.ax 2 (by simp) (.int .i64 0);have r2:=p2.cell0 2 (by simp);have p3:=p2.ax 3 (by simp) (.int .i64 0);have r3:=p3.cell0 3 (by simp);have p4:=p3.ax 4 (by simp) (.int .i64 0);have r4:=p4.cell0 4 (by simp);have p5:=p4.ax 5 (by simp) (.string {data:= #[]});have r5:=p5.cell0 5 (by simp);have p6:=p5.ax 6 (by simp) (.slice none 0 0);have r6:=p6.cell0 6 (by simp);simp only[Z2,Z3,Z0,Z1]at r0 r1 r2 r3 r4 r5 r6;clear p0 p1 p2 p3 p4 p5 p6;refine bodyPost_ret (v:= .tuple #[.agg #[.string {data:= #[]},.int .i64 0,.int .i64 0,.int .i64 0,.int .i64 0,.string {data:= #[]},.slice none 0 0],.iface t v]) (by simp[results,Tryz.results9,go_sem,r0,r1,r2,r3,r4,r5,r6];first|done|rfl) rfl ?_;have hb7:=nT (w0:=w) (w:=X) HBX.out (b:=w.heap.size+1+1) (by omega) (.string {data:= #[]}) (.int .i64 0) (.int .i64 0) (.int .i64 0) (.int .i64 0) (.string {data:= #[]}) (.slice none 0 0);refine⟨hb7,?_⟩;rw[HO.out];exact⟨_,_,rfl⟩
  ·have q1:decide (root∈names tys)=false:=Y9 hroot;rw[q1]at hlk0;have HO:=hid (show aw tys root s=none from uN hroot);clear hroot q1;go_wp2_with fail;go_quiet (fail);clear k1 k2 k3 hlk0;obtain⟨X,hX⟩:∃X,X=wc.drewN nq:=⟨_,rfl⟩;rw[← hX];have hbV:Below wc.heap.size wc X:=by rw[hX];exact fy (Y4 _ _) _
   have hbX:Below w.heap.size w X:=HM.out.bel.trans (hbV.mono HM.out.bel.size);have hres:ae X (w.heap.size+1+1) 0 28 cM:=HM.out.r2.below hbV HM.out.r2.lt;have y0:=hres.cell0 0 (by simp);have z0:=hres.frozen0 0 (by simp);have y1:=hres.cell0 1 (by simp);have z1:=hres.frozen0 1 (by simp);have y2:=hres.cell0 2 (by simp);have z2:=hres.frozen0 2 (by simp);have y3:=hres.cell0 3 (by simp);have z3:=hres.frozen0 3 (by simp);have y4:=hres.cell0 4 (by simp);have z4:=hres.frozen0 4 (by simp);have y5:=hres.cell0 5 (by simp);have z5:=hres.frozen0 5 (by simp);have y6:=hres.cell0 6 (by simp);have z6:=hres.frozen0 6 (by simp);simp only[Z0,Z1]at y0 y1 y2 y3 y4 y5 y6;have HBX:=hid hbX;have HRES:=hid hres;clear hX hbV hbX hres;go_wp2_with fail;have p0:=HRES.out.ax 0 (by simp) (.string {data:= #[]});have r0:=p0.cell0 0 (by simp);have p1:=p0.ax 1 (by simp) (.int .i64 0);have r1:=p1.cell0 1 (by simp);have p2:=p1.ax 2 (by simp) (.int .i64 0);have r2:=p2.cell0 2 (by simp);have p3:=p2.ax 3 (by simp) (.int .i64 0);have r3:=p3.cell0 3 (by simp);have p4:=p3.ax 4 (by simp) (.int .i64 0);have r4:=p4.cell0 4 (by simp);have p5:=p4.ax 5 (by simp) (.string {data:= #[]});have r5:=p5.cell0 5 (by simp);have p6:=p5.ax 6 (by simp) (.slice none 0 0);have r6:=p6.cell0 6 (by simp);simp only[Z2,Z3,Z0,Z1]at r0 r1 r2 r3 r4 r5 r6;clear p0 p1 p2 p3 p4 p5 p6;refine bodyPost_ret (v:= .tuple #[.agg #[.string {data:= #[]},.int .i64 0,.int .i64 0,.int .i64 0,.int .i64 0,.string {data:= #[]},.slice none 0 0],.iface 48 (.int .i64 7)]) (by simp[results,Tryz.results9,go_sem,r0,r1,r2,r3,r4,r5,r6];first|done|rfl) rfl ?_;have hb7:=nT (w0:=w) (w:=X) HBX.out (b:=w.heap.size+1+1) (by omega) (.string {data:= #[]}) (.int .i64 0) (.int .i64 0) (.int .i64 0) (.int .i64 0) (.string {data:= #[]}) (.slice none 0 0);refine⟨hb7,?_⟩;rw[HO.out];exact⟨_,_,rfl⟩
end
end Go.Proofs.YtlomecfhobehnaaGreatDoor
