import Derived.Test.YtlomecfhobehnaaGreatDoorMgFixSets28
set_option linter.unusedVariables false
set_option linter.unusedSimpArgs false
set_option maxRecDepth 100000
set_option maxHeartbeats 1000000
namespace Go.Proofs.YtlomecfhobehnaaGreatDoor
open Lib (hid)
section
open Go Go.RowKit
open Rd
open Ly
namespace Ly
def aB(l:List Tm.Ty)(root s:Tm.Wd):Option Nd:=(bI (rdS s l.reverse) s (fun _=>none) (cf root) ⟨0,0⟩).bind fun p=>if p.2.at_=s.length then some p.1 else none
theorem vG{s:Tm.Wd}:∀{l:List Tm.Ty} {nm:Tm.Wd} (_:nm∉names l) (st:St),rdS s l nm st=none
 |[],_,_,_=>rfl
 |t::r,nm,h,st=>by
  rw[jr (fun e=>h (by rw[← e];simp[names]))];exact vG (fun h2=>h (by simp only[names,List.map_cons,List.mem_cons];exact .inr h2)) st
theorem tz{l:List Tm.Ty}{root s:Tm.Wd}(h:root∉names l):aB l root s=none:=by
 unfold aB bI;cases nod ⟨0,0⟩with
 |none=>rfl
 |some st1=>
  simp only[Option.bind_some,cf];rw[vG (fun h2=>h ((mX l root).1 h2))];rfl
end Ly
structure RcS(U W:World)(rb fb b:Nat)(A:List Tm.Ty)(root s:Tm.Wd)(cr c0 cn cs:Nat):Prop where
 bel:Below U.heap.size U W
 bU:U.heap.size≤b
 form:bR U W rb fb A
 lr:LR W b (.map (some fb)) s ⟨0,0⟩
 r0:ad W cr 0 57 [.pointer (some ⟨b,0,none⟩)]
 r1:ad W c0 0 9 [.string (aa root)]
 r2:ad W cn 0 28 cJ
 r3:ad W cs 0 9 [.string (aa s)]
theorem RcS.up{U W W':World}{rb fb b:Nat}{A:List Tm.Ty}{root s:Tm.Wd}{cr c0 cn cs:Nat}(h:RcS U W rb fb b A root s cr c0 cn cs)(hb:Below W.heap.size W W'):RcS U W' rb fb b A root s cr c0 cn cs:=
 ⟨h.bel.trans (hb.mono h.bel.size),h.bU,h.form.al (hb.block _ h.form.lt),h.lr.al (hb.block _ h.lr.row.lt),h.r0.below hb h.r0.lt,h.r1.below hb h.r1.lt,h.r2.below hb h.r2.lt,h.r3.below hb h.r3.lt⟩
structure Two(w w':World)(b c:Nat):Prop where
 os:w'.os=w.os
 tape:w'.tape=w.tape
 output:w'.output=w.output
 size:w.heap.size≤w'.heap.size
 block:∀k,k < w.heap.size→k≠b→k≠c→w'.heap[k]? =w.heap[k]?
theorem Two.below{B:Nat}{w0 w w':World}{b c:Nat}(h:Below B w0 w)(k:Two w w' b c)(hB:B≤w.heap.size)(hb:B≤b)(hc:B≤c):Below B w0 w':=
 h.trans ⟨k.os,k.tape,k.output,k.size,fun i hi=>k.block i (by omega) (by omega) (by omega)⟩
theorem BR(w:World)(b:Nat)(v0 v1 v2 v3 v4 v5 v6:Value):(st7 w b v0 v1 v2 v3 v4 v5 v6).os=w.os∧(st7 w b v0 v1 v2 v3 v4 v5 v6).tape=w.tape∧(st7 w b v0 v1 v2 v3 v4 v5 v6).output=w.output:=by
 have k1:∀(W:World) (p:Addr) (v:Value),(W.setCell p v).os=W.os:=fun _ _ _=>rfl
 have k2:∀(W:World) (p:Addr) (v:Value),(W.setCell p v).tape=W.tape:=fun _ _ _=>rfl
 have k3:∀(W:World) (p:Addr) (v:Value),(W.setCell p v).output=W.output:=fun _ _ _=>rfl
 unfold st7;simp only[k1,k2,k3,and_self]
def Hf(W:World)(b cn:Nat)(o:Option Nd)(e:Ending)(w1:World):Prop:=Two W w1 b cn∧match o with
 |some d=>e= .returned (.tuple #[])∧∃ga cap bs b1,ad w1 cn 0 28 (ae d.name d.kind d.at_ d.size d.val d.text (.slice ga d.kids.len cap))∧an w1 W.heap.size 28 7 ga d.kids.len cap bs∧aW w1 W.heap.size d.kids b1 bs∧(aU ga++b1).Nodup
 |none=>od e
theorem BS(U W:World)(rb fb b:Nat)(A:List Tm.Ty)(root s:Tm.Wd)(cr c0 cn cs:Nat)(h:RcS U W rb fb b A root s cr c0 cn cs)(hsub:Dw A (rdS s A.reverse) s root)(hs:s.length≤1000000):
  Calls Tryz.prog 29 #[.pointer (some ⟨cr,0,none⟩),.pointer (some ⟨c0,0,none⟩),.pointer (some ⟨cn,0,none⟩),.pointer (some ⟨cs,0,none⟩)] W (Hf W b cn (aB A root s)):=by
 obtain⟨t,ht,hnm,htl,S',hS,hI⟩:=hsub;subst hnm;have k0:=h.r0.cell0 0 (by simp);have k1:=h.r1.cell0 0 (by simp);have k2:=h.r3.cell0 0 (by simp);simp only[Z0]at k0 k1 k2;have hnb:cn≠b:=by rintro rfl;exact absurd (h.r2.ty h.lr.row) (by decide)
 have hrb:cr≠b:=by rintro rfl;exact absurd (h.r0.ty h.lr.row) (by decide)
 have hsb:cs≠b:=by rintro rfl;exact absurd (h.r3.ty h.lr.row) (by decide)
 have hrn:cr≠cn:=by rintro rfl;exact absurd (h.r0.ty h.r2) (by decide)
 have hsn:cs≠cn:=by rintro rfl;exact absurd (h.r3.ty h.r2) (by decide)
 obtain⟨V,hV⟩:∃V,V=W.alloc (.cells #[.int .i64 3,.int .i64 0,.string (aa t.name),.string (aa t.name),.int .i64 0,.int .i64 0,.bool false,.bool false,.pointer none,.int .i64 0,.string {data:= #[]},.string {data:= #[]},.slice none 0 0] 70):=⟨_,rfl⟩;have hrow:ad V W.heap.size 0 70 (Tm.ag (cf t.name) (.pointer none)):=by rw[hV];exact ad.new W _ _
 have hbV:Below W.heap.size W V:=by rw[hV];exact(Y4 _ _).alloc (Z5 _) _
 have hC:=pF A (rdS s A.reverse) S' s t ht hS hI htl b rb fb (.map none) (.pointer none) W.heap.size 0 ⟨0,0⟩ (fun _=>none) (cf t.name) U V (h.lr.al (hbV.block _ h.lr.row.lt)) (h.bel.trans (hbV.mono h.bel.size)) h.bU (h.form.al (hbV.block _ h.form.lt)) hs rfl hrow;have HC:=hid hC;have HH:=hid h;have HV:=hid hV;have HBV:=hid hbV;clear h hC hrow hV hbV hS hI;go_enter Tryz.func29,Tryz.ntmps29;go_wp2_with fail;rw[← HV.out];refine HC.out.mono ?_;unfold fS;rintro e w2 ⟨hb2,hv⟩;clear k0 k1 k2;have htwo:Two W w2 b cn:=⟨hb2.os.trans HBV.out.os,hb2.tape.trans HBV.out.tape,hb2.output.trans HBV.out.output,Nat.le_trans HBV.out.size hb2.size,fun k h1 h2 h3=>(hb2.block k (Nat.lt_of_lt_of_le h1 HBV.out.size) h2 (fun e=>by cases e)).trans (HBV.out.block k h1)⟩;have HT:=hid htwo;have far:∀{g off:Nat} {ty:TypeId} {xs:List Value},ad W g off ty xs→g≠b→ad w2 g off ty xs:=fun hr hne=>hr.of_heap ((hb2.block _ (Nat.lt_of_lt_of_le hr.lt HBV.out.size) hne (fun e=>by cases e)).trans (HBV.out.block _ hr.lt))
 have f0:=far HH.out.r0 hrb;have f2:=far HH.out.r2 hnb;have f3:=far HH.out.r3 hsb;cases ho:bI (rdS s A.reverse) s (fun _=>none) (cf t.name) ⟨0,0⟩with
 |none=>
  rw[ho]at hv;obtain⟨t',v,he⟩:=hv;unfold bA at he;subst he;have HO:=hid (show aB A t.name s=none by unfold aB;rw[ho];rfl);clear hb2 htwo f0 f2 f3 ho;go_wp2_with fail;refine⟨rfl,HT.out,?_⟩;rw[HO.out];exact⟨t',v,rfl⟩
 |some p=>
  obtain⟨d,st⟩:=p;rw[ho]at hv;obtain⟨⟨v,bl,rfl,hd,hnd⟩,hl2,_,_⟩:=hv;obtain⟨ga,cap,bs,b1,hve,rfl,ho1,ho2⟩:=hd;have hve2:v= .agg #[.string (aa d.name),.int .i64 (d.kind:Nat),.int .i64 (d.at_:Nat),.int .i64 (d.size:Nat),.int .i64 d.val,.string (aa d.text),.slice ga d.kids.len cap]:=hve;subst hve2;have y0:=f2.cell0 0 (by simp);have z0:=f2.frozen0 0 (by simp);have y1:=f2.cell0 1 (by simp);have z1:=f2.frozen0 1 (by simp);have y2:=f2.cell0 2 (by simp);have z2:=f2.frozen0 2 (by simp);have y3:=f2.cell0 3 (by simp);have z3:=f2.frozen0 3 (by simp);have y4:=f2.cell0 4 (by simp);have z4:=f2.frozen0 4 (by simp);have y5:=f2.cell0 5 (by simp);have z5:=f2.frozen0 5 (by simp);have y6:=f2.cell0 6 (by simp);have z6:=f2.frozen0 6 (by simp);simp only[Z0,Z1]at y0 y1 y2 y3 y4 y5 y6;obtain⟨X,hX⟩:∃X,X=st7 w2 cn (.string (aa d.name)) (.int .i64 (d.kind:Nat)) (.int .i64 (d.at_:Nat)) (.int .i64 (d.size:Nat)) (.int .i64 d.val) (.string (aa d.text)) (.slice ga d.kids.len cap):=⟨_,rfl⟩;have hfar:∀g:Nat,g≠cn→X.heap[g]? =w2.heap[g]? :=fun g hg=>by rw[hX];exact cY _ _ _ _ _ _ _ _ hg
  have hrX:ad X cn 0 28 [.string (aa d.name),.int .i64 (d.kind:Nat),.int .i64 (d.at_:Nat),.int .i64 (d.size:Nat),.int .i64 d.val,.string (aa d.text),.slice ga d.kids.len cap]:=by rw[hX];exact lH f2 rfl _ _ _ _ _ _ _
  have hlX:LR X b (.map (some fb)) s st:=hl2.al (hfar b (Ne.symm hnb));have hcn:cn < W.heap.size:=HH.out.r2.lt;have hWV:W.heap.size≤V.heap.size:=HBV.out.size;have hTX:Two W X b cn:=by
   have hz:X.heap.size=w2.heap.size:=by rw[hX];exact pz _ _ _ _ _ _ _
   obtain⟨s1,s2,s3⟩:=BR w2 cn (.string (aa d.name)) (.int .i64 (d.kind:Nat)) (.int .i64 (d.at_:Nat)) (.int .i64 (d.size:Nat)) (.int .i64 d.val) (.string (aa d.text)) (.slice ga d.kids.len cap);rw[← hX]at s1 s2 s3;refine⟨s1.trans htwo.os,s2.trans htwo.tape,s3.trans htwo.output,by rw[hz];exact htwo.size,fun k h1 h2 h3=>(hfar k h3).trans (htwo.block k h1 h2 h3)⟩
  have hge:∀x,ga=some x→V.heap.size≤x.block:=fun x hx=>by subst hx;exact ho1.lt.1
  have hoX:an X W.heap.size 28 7 ga d.kids.len cap bs:=(ho1.al (w':=X) fun x hx=>hfar x.block (by have:=hge x hx;omega)).mono hWV;have heX:aW X W.heap.size d.kids b1 bs:=(ho2.al (w':=X) _ _ _ (fun k hk=>hfar k (by have:=ho2.mem _ _ _ k hk;omega))).low hWV _ _ _;clear hge;have c0:=(f0.of_heap (hfar _ hrn)).cell0 0 (by simp);have c3:=(f3.of_heap (hfar _ hsn)).cell0 0 (by simp);have cb:=hlX.row.cell0 2 (by simp);simp only[Z0,Z1]at c0 c3 cb;have HTX:=hid hTX;have HRX:=hid hrX;have HOX:=hid hoX;have HEX:=hid heX;have HND:=hid hnd;have HLX:=hid hlX;have HX:=hid (show X=(((((((w2.setCell ⟨cn,0,none⟩ (.string (aa d.name))).setCell ⟨cn,1,none⟩ (.int .i64 (d.kind:Nat))).setCell ⟨cn,2,none⟩ (.int .i64 (d.at_:Nat))).setCell ⟨cn,3,none⟩ (.int .i64 (d.size:Nat))).setCell ⟨cn,4,none⟩ (.int .i64 d.val)).setCell ⟨cn,5,none⟩ (.string (aa d.text))).setCell ⟨cn,6,none⟩ (.slice ga d.kids.len cap))from hX);have hle:st.at_≤s.length:=hl2.len;clear hb2 htwo f0 f2 f3 hl2 hve ho1 ho2 hnd hX hfar hrX hlX hTX hoX heX hcn hWV
  by_cases hlt:st.at_ < s.length
  ·have HO:=hid (show aB A t.name s=none by
    unfold aB;rw[ho];show(if st.at_=s.length then some d else none)=none;rw[if_neg (by omega)])
   have q1:decide ((st.at_:Int) < (s.length:Int))=true:=Z9 (by omega);have q2:decide (st.at_ < s.length)=true:=Z9 hlt;clear ho hlt hle;go_wp2_with fail;rw[← HX.out];go_quiet (fail);have HD0:=hid (ad.drewN ((HH.out.r0.of_heap ((HTX.out.block cr HH.out.r0.lt hrb hrn)))) nq);have d0:=HD0.out.cell0 0 (by simp);simp only[Z0]at d0;have HF:=hid (jO b 3 (.map (some fb)) s st (X.drewN nq) (HLX.out.al rfl));clear c0 c3 cb;go_wp2_with fail;refine HF.out.mono ?_;rintro e w5 ⟨⟨t',v,he⟩,hb5⟩;unfold bA at he;subst he;have HB5:=hid hb5;clear hb5;go_wp2_with fail;refine⟨rfl,⟨HB5.out.os.trans HTX.out.os,HB5.out.tape.trans HTX.out.tape,HB5.out.output.trans HTX.out.output,Nat.le_trans HTX.out.size HB5.out.size,fun k h1 h2 h3=>(HB5.out.block k (Nat.lt_of_lt_of_le h1 HTX.out.size)).trans (HTX.out.block k h1 h2 h3)⟩,?_⟩;rw[HO.out];exact⟨t',v,rfl⟩
  ·have HO:=hid (show aB A t.name s=some d by
    unfold aB;rw[ho];show(if st.at_=s.length then some d else none)=some d;rw[if_pos (by omega)])
   have q1:decide ((st.at_:Int) < (s.length:Int))=false:=Y9 (by omega);have q2:decide (st.at_ < s.length)=false:=Y9 hlt;clear ho hlt hle;go_wp2_with fail;rw[← HX.out];go_quiet (fail);go_wp2_with fail;refine bodyPost_ret (results_none rfl _ _ _) rfl ?_;refine⟨⟨HTX.out.os,HTX.out.tape,HTX.out.output,HTX.out.size,HTX.out.block⟩,?_⟩;rw[HO.out];exact⟨rfl,ga,cap,bs,b1,HRX.out.drewN nq,HOX.out.drewN nq,aW.al (w:=X) (w':=X.drewN nq) _ _ _ (fun _ _=>rfl) HEX.out,HND.out⟩
end
end Go.Proofs.YtlomecfhobehnaaGreatDoor
