import Derived.Test.YtlomecfhobehnaaGreatDoorMgFixTwice0
import Derived.Test.YtlomecfhobehnaaGreatDoorMgFixTwice29
set_option linter.unusedVariables false
set_option linter.unusedSimpArgs false
namespace Go.Proofs.YtlomecfhobehnaaGreatDoor
open Lib (hid)
section
set_option maxRecDepth 100000
set_option maxHeartbeats 1000000
open Go Go.RowKit
open Rd
open Ly
theorem gJ(pb:Nat)(x:Value)(t:TypeId)(v:Value)(older:List PanicEntry)(w:World)(hc:w.cell? ⟨pb,0,none⟩=some x)(hz:w.frozen? ⟨pb,0,none⟩=false)(hp:pb < w.heap.size):
  CallsD Tryz.prog 59 #[.pointer (some ⟨pb,0,none⟩)] (.panicking ({v:= .iface 110 (.agg #[.iface t v]),recovered:=false}::older)) w fun e u' w'=>
   e= .returned (.tuple #[])∧u'= .panicking ({v:= .iface 110 (.agg #[.iface t v]),recovered:=true}::older)∧∃o,w'=(w.setCell ⟨pb,0,none⟩ (.iface t v)).alloc o:=by
 refine callsD_of_wpS Tryz.func59 rfl fun c₀ cs hu=> ?_
 simp only[Tryz.ntmps59,List.size_toArray,Z6,Y3,Nat.reduceAdd,Nat.reduceSub,Array.replicate_succ,Array.replicate_zero,List.push_toArray,List.append_toArray,List.nil_append,List.cons_append]
 apply wpS_seq
 apply wpS_region
 simp[wpOpsS,go_sem,recoverD,hu,Tryz.ntmps59,Exit.thenS]
 refine wpS_of_wp ?_
 have hta:∀V:World,(Instr.typeAssert (.iface 110 (.agg #[.iface t v])) 20 110 true).run Tryz.prog V= .ok (.tuple #[.agg #[.iface t v],.bool true]) V:=fun V=>by kernel_rfl
 go_wp2_with fail
 exact⟨rfl,_,rfl,.tuple #[],results_none rfl _ _ _,rfl,rfl,_,rfl⟩
theorem jm(pb:Nat)(w:World):
  CallsD Tryz.prog 59 #[.pointer (some ⟨pb,0,none⟩)] .returning w fun e u' w'=>e= .returned (.tuple #[])∧u'= .returning∧w'=w:=by
 refine callsD_of_wpS Tryz.func59 rfl fun c₀ cs hu=> ?_
 simp only[Tryz.ntmps59,List.size_toArray,Z6,Y3,Nat.reduceAdd,Nat.reduceSub,Array.replicate_succ,Array.replicate_zero,List.push_toArray,List.append_toArray,List.nil_append,List.cons_append]
 apply wpS_seq
 apply wpS_region
 simp[wpOpsS,go_sem,recoverD,hu,Tryz.ntmps59,Exit.thenS]
 refine wpS_of_wp ?_
 go_wp2_with fail
 cases c₀
 simp_all[bodyPostS,results,Tryz.results59]
def fE(w:World)(R B:World→Prop)(e:Ending)(w':World):Prop:=
 (e= .returned .nilIface∧∃w1,R w1∧w'=w1.setCell ⟨w.heap.size,0,none⟩ .nilIface)∨(∃t v,e= .returned (.iface t v)∧∃w1 o,B w1∧w'=(w1.setCell ⟨w.heap.size,0,none⟩ (.iface t v)).alloc o)
def dh(w:World)(R B:World→Prop)(e:Ending)(w1:World):Prop:=w1.heap[w.heap.size]? =(w.alloc (.cells #[.nilIface] 30)).heap[w.heap.size]? ∧((e= .returned (.tuple #[])∧R w1)∨(nJ e∧B w1))
theorem ve(c0 c1 c2 c3:Value)(w:World)(R B:World→Prop)(hf:Calls Tryz.prog 29 #[c0,c1,c2,c3] (w.alloc (.cells #[.nilIface] 30)) (dh w R B)):
  Calls Tryz.prog 28 #[.func (.func 29) #[] #[c0,c1,c2,c3]] w (fE w R B):=by
 have HF:=hid hf
 clear hf
 go_enter_defers Tryz.func28,Tryz.ntmps28
 go_wp2_with fail
 refine HF.out.mono ?_
 unfold dh
 rintro e w1 ⟨hk,h⟩
 have hrow:ae (w.alloc (.cells #[.nilIface] 30)) w.heap.size 0 30 [.nilIface]:=ae.new w 30 #[.nilIface]
 have hrow1:=hrow.of_heap hk
 have hc1:=hrow1.cell0 0 (by simp)
 have hf1:=hrow1.frozen0 0 (by simp)
 simp only[Z0]at hc1
 have hl1:=hrow1.lt
 clear hrow hrow1 hk
 rcases h with⟨rfl,hR⟩|⟨⟨t,v,he⟩,hB⟩
 ·have HR:=hid hR
  have hc4:(w1.setCell ⟨w.heap.size,0,none⟩ .nilIface).cell? ⟨w.heap.size,0,none⟩=some .nilIface:=World.cell?_setCell_same' _ _ _ (by rw[hc1];rfl)
  clear hR
  go_wp2_with fail
  refine leaves_cons (f:=59) (args:= #[.pointer (some ⟨w.heap.size,0,none⟩)]) (by simp) (by simp[go_sem]) ?_
  refine(jm w.heap.size _).mono ?_
  rintro e u' w5 ⟨rfl,rfl,rfl⟩
  simp[Leaves,settle,results,Tryz.results28,go_sem,hc4]
  exact .inl ⟨rfl,_,HR.out,rfl⟩
 ·unfold bw at he
  subst he
  have HB:=hid hB
  clear hB
  go_wp2_with fail
  refine leaves_cons (f:=59) (args:= #[.pointer (some ⟨w.heap.size,0,none⟩)]) (by simp) (by simp[go_sem]) ?_
  refine(gJ w.heap.size .nilIface t v [] _ hc1 hf1 hl1).mono ?_
  rintro e u' w5 ⟨rfl,rfl,o,rfl⟩
  have hc5:(w1.setCell ⟨w.heap.size,0,none⟩ (.iface t v)).cell? ⟨w.heap.size,0,none⟩=some (.iface t v):=World.cell?_setCell_same' _ _ _ (by rw[hc1];rfl)
  have hb6:=(Y4 (w1.setCell ⟨w.heap.size,0,none⟩ (.iface t v)).heap.size (w1.setCell ⟨w.heap.size,0,none⟩ (.iface t v))).alloc (Z5 _) o
  have hc6:((w1.setCell ⟨w.heap.size,0,none⟩ (.iface t v)).alloc o).cell? ⟨w.heap.size,0,none⟩=some (.iface t v):=(hb6.cell (p:=⟨w.heap.size,0,none⟩) (by simpa using hl1)).trans hc5
  simp[Leaves,settle,results,Tryz.results28,go_sem,hc6]
  exact .inr ⟨t,v,rfl,_,o,HB.out,rfl⟩
theorem sZ(c0 c1 c2 c3:Value)(w:World)(R B:World→Prop)(hf:Calls Tryz.prog 32 #[c0,c1,c2,c3] (w.alloc (.cells #[.nilIface] 30)) (dh w R B)):
  Calls Tryz.prog 28 #[.func (.func 32) #[] #[c0,c1,c2,c3]] w (fE w R B):=by
 have HF:=hid hf
 clear hf
 go_enter_defers Tryz.func28,Tryz.ntmps28
 go_wp2_with fail
 refine HF.out.mono ?_
 unfold dh
 rintro e w1 ⟨hk,h⟩
 have hrow:ae (w.alloc (.cells #[.nilIface] 30)) w.heap.size 0 30 [.nilIface]:=ae.new w 30 #[.nilIface]
 have hrow1:=hrow.of_heap hk
 have hc1:=hrow1.cell0 0 (by simp)
 have hf1:=hrow1.frozen0 0 (by simp)
 simp only[Z0]at hc1
 have hl1:=hrow1.lt
 clear hrow hrow1 hk
 rcases h with⟨rfl,hR⟩|⟨⟨t,v,he⟩,hB⟩
 ·have HR:=hid hR
  have hc4:(w1.setCell ⟨w.heap.size,0,none⟩ .nilIface).cell? ⟨w.heap.size,0,none⟩=some .nilIface:=World.cell?_setCell_same' _ _ _ (by rw[hc1];rfl)
  clear hR
  go_wp2_with fail
  refine leaves_cons (f:=59) (args:= #[.pointer (some ⟨w.heap.size,0,none⟩)]) (by simp) (by simp[go_sem]) ?_
  refine(jm w.heap.size _).mono ?_
  rintro e u' w5 ⟨rfl,rfl,rfl⟩
  simp[Leaves,settle,results,Tryz.results28,go_sem,hc4]
  exact .inl ⟨rfl,_,HR.out,rfl⟩
 ·unfold bw at he
  subst he
  have HB:=hid hB
  clear hB
  go_wp2_with fail
  refine leaves_cons (f:=59) (args:= #[.pointer (some ⟨w.heap.size,0,none⟩)]) (by simp) (by simp[go_sem]) ?_
  refine(gJ w.heap.size .nilIface t v [] _ hc1 hf1 hl1).mono ?_
  rintro e u' w5 ⟨rfl,rfl,o,rfl⟩
  have hc5:(w1.setCell ⟨w.heap.size,0,none⟩ (.iface t v)).cell? ⟨w.heap.size,0,none⟩=some (.iface t v):=World.cell?_setCell_same' _ _ _ (by rw[hc1];rfl)
  have hb6:=(Y4 (w1.setCell ⟨w.heap.size,0,none⟩ (.iface t v)).heap.size (w1.setCell ⟨w.heap.size,0,none⟩ (.iface t v))).alloc (Z5 _) o
  have hc6:((w1.setCell ⟨w.heap.size,0,none⟩ (.iface t v)).alloc o).cell? ⟨w.heap.size,0,none⟩=some (.iface t v):=(hb6.cell (p:=⟨w.heap.size,0,none⟩) (by simpa using hl1)).trans hc5
  simp[Leaves,settle,results,Tryz.results28,go_sem,hc6]
  exact .inr ⟨t,v,rfl,_,o,HB.out,rfl⟩
end
section
set_option maxRecDepth 100000
set_option maxHeartbeats 1000000
open Go Go.RowKit
open Rd
open Ly
namespace Ly
def aJ(l:List Tm.Ty)(root s:Tm.Wd):Option Nd:=(bF (rdS s l.reverse) s (fun _=>none) (bZ root) ⟨0,0⟩).bind fun p=>if p.2.at_=s.length then some p.1 else none
theorem vf{s:Tm.Wd}:∀{l:List Tm.Ty} {nm:Tm.Wd} (_:nm∉names l) (st:St),rdS s l nm st=none
 |[],_,_,_=>rfl
 |t::r,nm,h,st=>by
  rw[jl (fun e=>h (by rw[← e];simp[names]))]
  exact vf (fun h2=>h (by simp only[names,List.map_cons,List.mem_cons];exact .inr h2)) st
theorem s5{l:List Tm.Ty}{root s:Tm.Wd}(h:root∉names l):aJ l root s=none:=by
 unfold aJ bF
 cases nod ⟨0,0⟩with
 |none=>rfl
 |some st1=>
  simp only[Option.bind_some,bZ]
  rw[vf (fun h2=>h ((mD l root).1 h2))]
  rfl
end Ly
structure RcS(U W:World)(rb fb b:Nat)(A:List Tm.Ty)(root s:Tm.Wd)(cr c0 cn cs:Nat):Prop where
 bel:Below U.heap.size U W
 bU:U.heap.size≤b
 form:bN U W rb fb A
 lr:LR W b (.map (some fb)) s ⟨0,0⟩
 r0:ae W cr 0 57 [.pointer (some ⟨b,0,none⟩)]
 r1:ae W c0 0 9 [.string (aa root)]
 r2:ae W cn 0 28 cC
 r3:ae W cs 0 9 [.string (aa s)]
theorem RcS.up{U W W':World}{rb fb b:Nat}{A:List Tm.Ty}{root s:Tm.Wd}{cr c0 cn cs:Nat}(h:RcS U W rb fb b A root s cr c0 cn cs)(hb:Below W.heap.size W W'):RcS U W' rb fb b A root s cr c0 cn cs:=
 ⟨h.bel.trans (hb.mono h.bel.size),h.bU,h.form.al (hb.block _ h.form.lt),h.lr.al (hb.block _ h.lr.row.lt),h.r0.below hb h.r0.lt,h.r1.below hb h.r1.lt,h.r2.below hb h.r2.lt,h.r3.below hb h.r3.lt⟩
structure Two(w w':World)(b c:Nat):Prop where
 os:w'.os=w.os
 tape:w'.tape=w.tape
 output:w'.output=w.output
 size:w.heap.size≤w'.heap.size
 block:∀k,k < w.heap.size→k≠b→k≠c→w'.heap[k]? =w.heap[k]?
theorem Two.below{B:Nat}{w0 w w':World}{b c:Nat}(h:Below B w0 w)(k:Two w w' b c)(hB:B≤w.heap.size)(hb:B≤b)(hc:B≤c):Below B w0 w':=
 h.trans ⟨k.os,k.tape,k.output,k.size,fun i hi=>k.block i (by omega) (by omega) (by omega)⟩
theorem A5(w:World)(b:Nat)(v0 v1 v2 v3 v4 v5 v6:Value):(st7 w b v0 v1 v2 v3 v4 v5 v6).os=w.os∧(st7 w b v0 v1 v2 v3 v4 v5 v6).tape=w.tape∧(st7 w b v0 v1 v2 v3 v4 v5 v6).output=w.output:=by
 have k1:∀(W:World) (p:Addr) (v:Value),(W.setCell p v).os=W.os:=fun _ _ _=>rfl
 have k2:∀(W:World) (p:Addr) (v:Value),(W.setCell p v).tape=W.tape:=fun _ _ _=>rfl
 have k3:∀(W:World) (p:Addr) (v:Value),(W.setCell p v).output=W.output:=fun _ _ _=>rfl
 unfold st7
 simp only[k1,k2,k3,and_self]
def Gl(W:World)(b cn:Nat)(o:Option Nd)(e:Ending)(w1:World):Prop:=Two W w1 b cn∧match o with
 |some d=>e= .returned (.tuple #[])∧∃ga cap bs b1,ae w1 cn 0 28 (ad d.name d.kind d.at_ d.size d.val d.text (.slice ga d.kids.len cap))∧an w1 W.heap.size 28 7 ga d.kids.len cap bs∧aW w1 W.heap.size d.kids b1 bs∧(aU ga++b1).Nodup
 |none=>nJ e
theorem A6(U W:World)(rb fb b:Nat)(A:List Tm.Ty)(root s:Tm.Wd)(cr c0 cn cs:Nat)(h:RcS U W rb fb b A root s cr c0 cn cs)(hsub:CJ A (rdS s A.reverse) s root)(hs:s.length≤1000000):
  Calls Tryz.prog 29 #[.pointer (some ⟨cr,0,none⟩),.pointer (some ⟨c0,0,none⟩),.pointer (some ⟨cn,0,none⟩),.pointer (some ⟨cs,0,none⟩)] W (Gl W b cn (aJ A root s)):=by
 obtain⟨t,ht,hnm,htl,S',hS,hI⟩:=hsub
 subst hnm
 have k0:=h.r0.cell0 0 (by simp);have k1:=h.r1.cell0 0 (by simp);have k2:=h.r3.cell0 0 (by simp)
 simp only[Z0]at k0 k1 k2
 have hnb:cn≠b:=by rintro rfl;exact absurd (h.r2.ty h.lr.row) (by decide)
 have hrb:cr≠b:=by rintro rfl;exact absurd (h.r0.ty h.lr.row) (by decide)
 have hsb:cs≠b:=by rintro rfl;exact absurd (h.r3.ty h.lr.row) (by decide)
 have hrn:cr≠cn:=by rintro rfl;exact absurd (h.r0.ty h.r2) (by decide)
 have hsn:cs≠cn:=by rintro rfl;exact absurd (h.r3.ty h.r2) (by decide)
 obtain⟨V,hV⟩:∃V,V=W.alloc (.cells #[.int .i64 3,.int .i64 0,.string (aa t.name),.string (aa t.name),.int .i64 0,.int .i64 0,.bool false,.bool false,.pointer none,.int .i64 0,.string {data:= #[]},.string {data:= #[]},.slice none 0 0] 70):=⟨_,rfl⟩
 have hrow:ae V W.heap.size 0 70 (Tm.ag (bZ t.name) (.pointer none)):=by rw[hV];exact ae.new W _ _
 have hbV:Below W.heap.size W V:=by rw[hV];exact(Y4 _ _).alloc (Z5 _) _
 have hC:=o9 A (rdS s A.reverse) S' s t ht hS hI htl b rb fb (.map none) (.pointer none) W.heap.size 0 ⟨0,0⟩ (fun _=>none) (bZ t.name) U V (h.lr.al (hbV.block _ h.lr.row.lt)) (h.bel.trans (hbV.mono h.bel.size)) h.bU (h.form.al (hbV.block _ h.form.lt)) hs rfl hrow
 have HC:=hid hC
 have HH:=hid h;have HV:=hid hV;have HBV:=hid hbV
 clear h hC hrow hV hbV hS hI
 go_enter Tryz.func29,Tryz.ntmps29
 go_wp2_with fail
 rw[← HV.out]
 refine HC.out.mono ?_
 unfold fL
 rintro e w2 ⟨hb2,hv⟩
 clear k0 k1 k2
 have htwo:Two W w2 b cn:=⟨hb2.os.trans HBV.out.os,hb2.tape.trans HBV.out.tape,hb2.output.trans HBV.out.output,Nat.le_trans HBV.out.size hb2.size,fun k h1 h2 h3=>(hb2.block k (Nat.lt_of_lt_of_le h1 HBV.out.size) h2 (fun e=>by cases e)).trans (HBV.out.block k h1)⟩
 have HT:=hid htwo
 have far:∀{g off:Nat} {ty:TypeId} {xs:List Value},ae W g off ty xs→g≠b→ae w2 g off ty xs:=fun hr hne=>hr.of_heap ((hb2.block _ (Nat.lt_of_lt_of_le hr.lt HBV.out.size) hne (fun e=>by cases e)).trans (HBV.out.block _ hr.lt))
 have f0:=far HH.out.r0 hrb;have f2:=far HH.out.r2 hnb;have f3:=far HH.out.r3 hsb
 cases ho:bF (rdS s A.reverse) s (fun _=>none) (bZ t.name) ⟨0,0⟩with
 |none=>
  rw[ho]at hv
  obtain⟨t',v,he⟩:=hv
  unfold bw at he
  subst he
  have HO:=hid (show aJ A t.name s=none by unfold aJ;rw[ho];rfl)
  clear hb2 htwo f0 f2 f3 ho
  go_wp2_with fail
  refine⟨rfl,HT.out,?_⟩
  rw[HO.out]
  exact⟨t',v,rfl⟩
 |some p=>
  obtain⟨d,st⟩:=p
  rw[ho]at hv
  obtain⟨⟨v,bl,rfl,hd,hnd⟩,hl2,_,_⟩:=hv
  obtain⟨ga,cap,bs,b1,hve,rfl,ho1,ho2⟩:=hd
  have hve2:v= .agg #[.string (aa d.name),.int .i64 (d.kind:Nat),.int .i64 (d.at_:Nat),.int .i64 (d.size:Nat),.int .i64 d.val,.string (aa d.text),.slice ga d.kids.len cap]:=hve
  subst hve2
  have y0:=f2.cell0 0 (by simp);have z0:=f2.frozen0 0 (by simp)
  have y1:=f2.cell0 1 (by simp);have z1:=f2.frozen0 1 (by simp)
  have y2:=f2.cell0 2 (by simp);have z2:=f2.frozen0 2 (by simp)
  have y3:=f2.cell0 3 (by simp);have z3:=f2.frozen0 3 (by simp)
  have y4:=f2.cell0 4 (by simp);have z4:=f2.frozen0 4 (by simp)
  have y5:=f2.cell0 5 (by simp);have z5:=f2.frozen0 5 (by simp)
  have y6:=f2.cell0 6 (by simp);have z6:=f2.frozen0 6 (by simp)
  simp only[Z0,Z1]at y0 y1 y2 y3 y4 y5 y6
  obtain⟨X,hX⟩:∃X,X=st7 w2 cn (.string (aa d.name)) (.int .i64 (d.kind:Nat)) (.int .i64 (d.at_:Nat)) (.int .i64 (d.size:Nat)) (.int .i64 d.val) (.string (aa d.text)) (.slice ga d.kids.len cap):=⟨_,rfl⟩
  have hfar:∀g:Nat,g≠cn→X.heap[g]? =w2.heap[g]? :=fun g hg=>by rw[hX];exact df _ _ _ _ _ _ _ _ hg
  have hrX:ae X cn 0 28 [.string (aa d.name),.int .i64 (d.kind:Nat),.int .i64 (d.at_:Nat),.int .i64 (d.size:Nat),.int .i64 d.val,.string (aa d.text),.slice ga d.kids.len cap]:=by rw[hX];exact nU f2 rfl _ _ _ _ _ _ _
  have hlX:LR X b (.map (some fb)) s st:=hl2.al (hfar b (Ne.symm hnb))
  have hcn:cn < W.heap.size:=HH.out.r2.lt
  have hWV:W.heap.size≤V.heap.size:=HBV.out.size
  have hTX:Two W X b cn:=by
   have hz:X.heap.size=w2.heap.size:=by rw[hX];exact oV _ _ _ _ _ _ _
   obtain⟨s1,s2,s3⟩:=A5 w2 cn (.string (aa d.name)) (.int .i64 (d.kind:Nat)) (.int .i64 (d.at_:Nat)) (.int .i64 (d.size:Nat)) (.int .i64 d.val) (.string (aa d.text)) (.slice ga d.kids.len cap)
   rw[← hX]at s1 s2 s3
   refine⟨s1.trans htwo.os,s2.trans htwo.tape,s3.trans htwo.output,by rw[hz];exact htwo.size,fun k h1 h2 h3=>(hfar k h3).trans (htwo.block k h1 h2 h3)⟩
  have hge:∀x,ga=some x→V.heap.size≤x.block:=fun x hx=>by subst hx;exact ho1.lt.1
  have hoX:an X W.heap.size 28 7 ga d.kids.len cap bs:=(ho1.al (w':=X) fun x hx=>hfar x.block (by have:=hge x hx;omega)).mono hWV
  have heX:aW X W.heap.size d.kids b1 bs:=(ho2.al (w':=X) _ _ _ (fun k hk=>hfar k (by have:=ho2.mem _ _ _ k hk;omega))).low hWV _ _ _
  clear hge
  have c0:=(f0.of_heap (hfar _ hrn)).cell0 0 (by simp);have c3:=(f3.of_heap (hfar _ hsn)).cell0 0 (by simp);have cb:=hlX.row.cell0 2 (by simp)
  simp only[Z0,Z1]at c0 c3 cb
  have HTX:=hid hTX;have HRX:=hid hrX;have HOX:=hid hoX;have HEX:=hid heX;have HND:=hid hnd;have HLX:=hid hlX;have HX:=hid (show X=(((((((w2.setCell ⟨cn,0,none⟩ (.string (aa d.name))).setCell ⟨cn,1,none⟩ (.int .i64 (d.kind:Nat))).setCell ⟨cn,2,none⟩ (.int .i64 (d.at_:Nat))).setCell ⟨cn,3,none⟩ (.int .i64 (d.size:Nat))).setCell ⟨cn,4,none⟩ (.int .i64 d.val)).setCell ⟨cn,5,none⟩ (.string (aa d.text))).setCell ⟨cn,6,none⟩ (.slice ga d.kids.len cap))from hX)
  have hle:st.at_≤s.length:=hl2.len
  clear hb2 htwo f0 f2 f3 hl2 hve ho1 ho2 hnd hX hfar hrX hlX hTX hoX heX hcn hWV
  by_cases hlt:st.at_ < s.length
  ·have HO:=hid (show aJ A t.name s=none by
    unfold aJ;rw[ho];show(if st.at_=s.length then some d else none)=none;rw[if_neg (by omega)])
   have q1:decide ((st.at_:Int) < (s.length:Int))=true:=Z9 (by omega)
   have q2:decide (st.at_ < s.length)=true:=Z9 hlt
   clear ho hlt hle
   go_wp2_with fail
   rw[← HX.out]
   go_quiet (fail)
   have HD0:=hid (ae.drewN ((HH.out.r0.of_heap ((HTX.out.block cr HH.out.r0.lt hrb hrn)))) nq)
   have d0:=HD0.out.cell0 0 (by simp)
   simp only[Z0]at d0
   have HF:=hid (jJ b 3 (.map (some fb)) s st (X.drewN nq) (HLX.out.al rfl))
   clear c0 c3 cb
   go_wp2_with fail
   refine HF.out.mono ?_
   rintro e w5 ⟨⟨t',v,he⟩,hb5⟩
   unfold bw at he
   subst he
   have HB5:=hid hb5
   clear hb5
   go_wp2_with fail
   refine⟨rfl,⟨HB5.out.os.trans HTX.out.os,HB5.out.tape.trans HTX.out.tape,HB5.out.output.trans HTX.out.output,Nat.le_trans HTX.out.size HB5.out.size,fun k h1 h2 h3=>(HB5.out.block k (Nat.lt_of_lt_of_le h1 HTX.out.size)).trans (HTX.out.block k h1 h2 h3)⟩,?_⟩
   rw[HO.out]
   exact⟨t',v,rfl⟩
  ·have HO:=hid (show aJ A t.name s=some d by
    unfold aJ;rw[ho];show(if st.at_=s.length then some d else none)=some d;rw[if_pos (by omega)])
   have q1:decide ((st.at_:Int) < (s.length:Int))=false:=Y9 (by omega)
   have q2:decide (st.at_ < s.length)=false:=Y9 hlt
   clear ho hlt hle
   go_wp2_with fail
   rw[← HX.out]
   go_quiet (fail)
   go_wp2_with fail
   refine bodyPost_ret (results_none rfl _ _ _) rfl ?_
   refine⟨⟨HTX.out.os,HTX.out.tape,HTX.out.output,HTX.out.size,HTX.out.block⟩,?_⟩
   rw[HO.out]
   exact⟨rfl,ga,cap,bs,b1,HRX.out.drewN nq,HOX.out.drewN nq,aW.al (w:=X) (w':=X.drewN nq) _ _ _ (fun _ _=>rfl) HEX.out,HND.out⟩
end
end Go.Proofs.YtlomecfhobehnaaGreatDoor
