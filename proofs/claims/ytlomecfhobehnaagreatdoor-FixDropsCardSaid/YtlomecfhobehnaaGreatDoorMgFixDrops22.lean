import Derived.Test.YtlomecfhobehnaaGreatDoorMgFixDrops21
set_option linter.all false
set_option maxRecDepth 100000
set_option maxHeartbeats 8000000
namespace Go.Proofs.YtlomecfhobehnaaGreatDoor
open Lib (hid)
section
open Go.RowKit
open Rd
def Fy(w:World)(E:Nat)(T:List Rd.Tok)(e:Ending)(w':World):Prop:=
 Below w.heap.size w w'∧((∃tys a cap vs,Tm.Tys E 0 T tys∧e= .returned (.tuple #[.slice a (List.length tys) cap,.nilIface])∧ak w' w.heap.size 97 3 a (List.length tys) cap vs∧Tm.cI w' w.heap.size tys vs)∨((∀tys,¬Tm.Tys E 0 T tys)∧∃g n p:Nat,e= .returned (.tuple #[.slice none 0 0,.iface 120 (.pointer (some ⟨g,0,none⟩))])∧ae w' g 0 122 [.int .i64 (n:Nat),.int .i64 (p:Nat)]))
theorem Di{n:Nat}(h:n≤8):n+1≤maxLen∧(n+1) * 48≤140737488355328:=by
 refine⟨?_,by omega⟩;show n+1≤9223372036854775807;omega
theorem zK(s:List UInt8)(T:List Rd.Tok)(w:World)(hs:s.length≤3000)(hm:ej w)(he:Env w w.heap.size)(hn:Lex.cZ s 0=some T)(hT:fK T):
  Calls Tryz.prog 25 #[.string (aa s)] w (Fy w s.length T):=by
 have HL:=hid (yT s T (w.alloc (.cells #[.nilIface] 30)) hs (hm.below ((Y4 _ w).alloc (Z5 _) _) (Z5 _)) hn);have HE:=hid he;have HTO:=hid hT;have hF:=fun V en at_ rb=>dC rb en at_ V
 unfold aD at hF;have HF:=hid hF;clear hs hm hn hT he hF
 go_enter_defers Tryz.func25,Tryz.ntmps25
 go_wp2_with fail;refine HL.out.mono ?_;rintro e w1 ⟨rb,rfl,hr,hrb,hrlt,hb⟩;have hbox:w1.cell? ⟨w.heap.size,0,none⟩=some .nilIface:=(hb.cell (p:=⟨w.heap.size,0,none⟩) (by simp)).trans (by simp);have hfz:w1.frozen? ⟨w.heap.size,0,none⟩=false:=(hb.frozen (p:=⟨w.heap.size,0,none⟩) (by simp)).trans (by simp);have HS:Hid (PS w (w1.setCell ⟨w.heap.size,0,none⟩ .nilIface) rb T s.length):=hid (PS.mk' HE.out hr hrb hb);have hc0:=HS.out.box.cell0 0 (by simp);simp only[Z0]at hc0;clear hr hrb hrlt hb;obtain⟨w2,hw2⟩:∃w2,w2=w1.setCell ⟨w.heap.size,0,none⟩ .nilIface:=⟨_,rfl⟩;rw[← hw2]at HS hc0;go_wp2_with fail;rw[← hw2];clear hw2 hbox hfz hc0;go_loopw [5] (fun v5 wr=>∃(ls:List Tm.Ty) (a:Option Addr) (cap:Nat) (T0:List Rd.Tok) (vs:List Value),v5= .slice a ls.length cap∧Hid (qq w2 wr rb s.length T T0 ls a cap vs)) (fun _ wr=>Rd.leftOf wr rb)
 case atStart=>exact⟨[],none,0,T,[],rfl,hid (qq.start HS.out.env HS.out.rd)⟩
 case round=>
  obtain⟨ls,a,cap,T0,vs,rfl,HY⟩:=hrel;have HT0:=hid (HTO.out.suf HY.out.suf);have HTX:=hid (bJ rb T0 s.length wr HY.out.rd);have HYB:=hid (HS.out.box.of_heap (HY.out.gr.block w.heap.size HS.out.box.lt (fun e=>by injection e with e;have:=HS.out.lt;omega)));cases T0 with
  |nil=>
   have hto:al ([]:List Rd.Tok)=[]:=rfl;rw[hto]at HTX;have hc3:=HYB.out.cell0 0 (by simp);have hf3:=HYB.out.frozen 0 (by simp);simp only[Z0]at hc3;have HB3:=hid (HS.out.bel.grown HY.out.gr HS.out.bel.size (fun k e=>by injection e with e;have:=HS.out.lt;omega));have hc4:(wr.setCell ⟨w.heap.size,0,none⟩ .nilIface).cell? ⟨w.heap.size,0,none⟩=some .nilIface:=World.cell?_setCell_same' _ _ _ (by rw[hc3];rfl);clear hto;go_wp2_with fail;refine HTX.out.mono ?_;rintro e w4 ⟨rfl,rfl⟩;go_wp2_with fail;refine leaves_cons (f:=49) (args:= #[.pointer (some ⟨w.heap.size,0,none⟩)]) (by simp) (by simp[go_sem]) ?_;refine(yU w.heap.size _).mono ?_;rintro e u' w5 ⟨rfl,rfl,rfl⟩;simp[Leaves,settle,results,Tryz.results25,go_sem,hc4];refine⟨HB3.out.setCell (p:=⟨w.heap.size,0,none⟩) (Z5 _) _,.inl ⟨ls,a,cap,vs,HY.out.done,rfl,?_,?_⟩⟩
   ·refine(HY.out.own.far (fun y hy=> ?_) _).mono (Nat.le_trans (Nat.le_of_lt HS.out.lt) (Nat.le_of_lt HS.out.rd.lt));have ho:=HY.out.own;subst hy;have:=ho.lt.1;have:=HS.out.lt;have:=HS.out.rd.lt;show y.block≠w.heap.size;omega
   ·refine Tm.cI.an ?_ ?_ ls vs (Tm.cI.low (Nat.le_of_lt HS.out.lt) ls vs HY.out.enc)
    ·exact fun g xs hg hrow=>Below.heap_setCell w4 ⟨w.heap.size,0,none⟩ .nilIface g (by show g≠w.heap.size;omega)
    ·exact fun g xs hg hrow=>Below.heap_setCell w4 ⟨w.heap.size,0,none⟩ .nilIface g (by show g≠w.heap.size;omega)
  |cons t T1=>
   have htx:al (t::T1)=t.1:=rfl;rw[htx]at HTX;have htne:=(HT0.out t (by simp)).1;have q1:(t.1==[])=false:=by rw[Z8];exact htne
   have q1b:(t.1 !=[])=true:=by rw[bne,q1];rfl
   have q1c:t.1.isEmpty=false:=by cases h9:t.1 with|nil=>exact absurd h9 htne|cons a b=>rfl
   have HA:=hid (bW rb (t::T1) s.length wr HY.out.rd);have hat:Ex.dY s.length (t::T1)=t.2:=rfl;rw[hat]at HA;have HM:=hid (dF wr rb s.length (t::T1) Tm.cS (by decide) HY.out.rd);unfold Bad aD at HM;have hfew:=HY.out.few;generalize hnn:ls.length=n at *
   have HN:=hid hnn;have HTNE:=hid htne;clear hnn htx hat htne
   by_cases hst:t.1=Tm.cS
   ·have q2:(t.1==[115,116,114,117,99,116])=true:=by rw[beq_iff_eq];exact hst
    have HST:=hid hst
    by_cases h8:n=8
    ·have q3:((n:Int)==8)=true:=by rw[beq_iff_eq];omega
     have q4:(n==8)=true:=by rw[beq_iff_eq];exact h8
     have H8:=hid h8;clear h8 hfew hst;go_wp2_with fail;refine HTX.out.mono ?_;rintro e w4 ⟨rfl,rfl⟩;go_wp2_with fail;refine HTX.out.mono ?_;rintro e w4 ⟨rfl,rfl⟩;go_wp2_with fail;refine HA.out.mono ?_;rintro e w4 ⟨rfl,rfl⟩;go_wp2_with fail;obtain⟨w8,hw8⟩:∃w8,w8=w4:=⟨_,rfl⟩;refine(HF.out _ _ _ _).mono ?_;rintro e w3 ⟨rfl,hrow,hb9⟩;obtain⟨g,hgq⟩:∃g,g=w8.heap.size:=⟨_,rfl⟩;rw[← hw8,← hgq]at hrow;rw[← hw8]at hb9 HY;rw[← hw8,← hgq];have hgle:w8.heap.size≤g:=by rw[hgq];exact Z5 _
     have hgr9:=ar hb9 (some rb);clear hw8 hb9 hgq;have hg3:=ah HY.out.gr hgr9;have hg:w2.heap.size≤g:=Nat.le_trans (HY.out.gr).size hgle;have hbox3:=HS.out.box.of_heap (hg3.block w.heap.size HS.out.box.lt (fun e=>by injection e with e;have:=HS.out.lt;omega));have hc3:=hbox3.cell0 0 (by simp);have hf3:=hbox3.frozen 0 (by simp);simp only[Z0]at hc3;have hl3:=hbox3.lt;have HB3:=hid (HS.out.bel.grown hg3 HS.out.bel.size (fun k e=>by injection e with e;have:=HS.out.lt;omega));have hgne:w.heap.size < g:=by have:=HS.out.bel.size;have h2:=HS.out.lt;have h3:=HS.out.rd.lt;omega
     have HROW:=hid hrow;have HGN:=hid hgne;have HNEG:=hid (show ∀L,¬Tm.Tys s.length 0 T L from HY.out.stuck (by simp) (fun h=>absurd (HN.out.symm▸h) (by have:=H8.out;omega)));clear hg hg3 hbox3 hgne;go_wp2_with fail;refine leaves_cons (f:=49) (args:= #[.pointer (some ⟨w.heap.size,0,none⟩)]) (by simp) (by simp[go_sem]) ?_;refine(fI w.heap.size .nilIface g [] _ hc3 hf3 hl3).mono ?_;rintro e u' w9 ⟨rfl,rfl,o,rfl⟩;have hc5:(w3.setCell ⟨w.heap.size,0,none⟩ (.iface 120 (.pointer (some ⟨g,0,none⟩)))).cell? ⟨w.heap.size,0,none⟩=some (.iface 120 (.pointer (some ⟨g,0,none⟩))):=World.cell?_setCell_same' _ _ _ (by rw[hc3];rfl);have hb6:=(Y4 (w3.setCell ⟨w.heap.size,0,none⟩ (.iface 120 (.pointer (some ⟨g,0,none⟩)))).heap.size (w3.setCell ⟨w.heap.size,0,none⟩ (.iface 120 (.pointer (some ⟨g,0,none⟩))))).alloc (Z5 _) o;have hc6:((w3.setCell ⟨w.heap.size,0,none⟩ (.iface 120 (.pointer (some ⟨g,0,none⟩)))).alloc o).cell? ⟨w.heap.size,0,none⟩=some (.iface 120 (.pointer (some ⟨g,0,none⟩))):=(hb6.cell (p:=⟨w.heap.size,0,none⟩) (by simpa using hl3)).trans hc5;have hrow6:=((HROW.out.far (p:=⟨w.heap.size,0,none⟩) (Nat.ne_of_gt HGN.out) (.iface 120 (.pointer (some ⟨g,0,none⟩)))).alloc o);have hbel:Below w.heap.size w ((w3.setCell ⟨w.heap.size,0,none⟩ (.iface 120 (.pointer (some ⟨g,0,none⟩)))).alloc o):=(HB3.out.setCell (p:=⟨w.heap.size,0,none⟩) (Z5 _) _).alloc (by simpa using HB3.out.size) o;simp[Leaves,settle,results,Tryz.results25,go_sem,hc6];exact⟨hbel,.inr ⟨HNEG.out,g,_,_,rfl,hrow6⟩⟩
    ·have q3:((n:Int)==8)=false:=by rw[Z8];omega
     have q4:(n==8)=false:=by rw[Z8];exact h8
     obtain⟨hs1,hs2⟩:=Di (show n≤8 by omega);have H8:=hid (show n < 8 by omega);clear h8 hfew hst;go_wp2_with fail;refine HTX.out.mono ?_;rintro e w4 ⟨rfl,rfl⟩;go_wp2_with fail;refine HTX.out.mono ?_;rintro e w4 ⟨rfl,rfl⟩;go_wp2_with fail;refine HM.out.mono ?_;rintro e w5 (⟨t',R,hcons,_,rfl,hr5,hg5⟩|⟨hno,_⟩)
     rotate_left
     ·exact absurd HST.out hno
     cases hcons;have HEN5:=hid (HY.out.env.grown hg5 HY.out.rd.lt);have HR5:=hid hr5;have HG5:=hid hg5;have HTR:=hid (HT0.out.suf (List.suffix_cons t T1));clear hr5 hg5 HM HTX HA;go_wp2_with fail;refine(bW rb T1 s.length _ HR5.out).mono ?_;rintro e w6 ⟨rfl,rfl⟩;obtain⟨at_,hat⟩:∃a,a=Ex.dY s.length T1:=⟨_,rfl⟩;rw[← hat];have HAT:=hid hat;clear hat;have HB6:=hid (nO.start HEN5.out HR5.out at_);go_wp2_with fail;have HNM:=hid (lY _ rb s.length T1 HB6.out.rd HTR.out);unfold Bad aD at HNM;refine HNM.out.mono ?_;rintro e w7 (⟨u,R,rfl,hu,rfl,hr7,hg7⟩|⟨hno,g,en,p,rfl,g1,g2,g3⟩)
     ·have HB7:=hid (HB6.out.move hr7 hg7);obtain⟨a0,b0⟩:=HB7.out.cell 0 (by simp);have HB8:=hid (HB7.out.set 0 (by simp) (.string (aa u.1)));simp only[Z0]at a0;have HU:=hid hu;have HATU:=hid (show at_=u.2 from HAT.out);have HTR2:=hid (HTR.out.suf (List.suffix_cons u R));clear hr7 hg7 hu HNM;go_wp2_with fail;have HBK:=hid (CR rb s.length R HTR2.out _ HB8.out.env HB8.out.rd);unfold jz Bad aD at HBK;refine HBK.out.mono ?_;rintro e w9 (⟨l,R2,ga,cb,bs,hbp,rfl,hown,henc,hr9,hg9⟩|⟨hno,g,en,p,rfl,g1,g2,g3⟩)
      ·have HB9:=hid (HB8.out.move hr9 hg9);obtain⟨a2,b2⟩:=HB9.out.cell 2 (by simp);have HBA:=hid (HB9.out.set 2 (by simp) (.slice ga (Tm.Its.len l) cb));obtain⟨k1,k2⟩:=HB9.out.keeps 2 (.slice ga (Tm.Its.len l) cb);have HK1:=hid k1;have HK2:=hid k2;obtain⟨c0,_⟩:=HBA.out.cell 0 (by simp);obtain⟨c1,_⟩:=HBA.out.cell 1 (by simp);obtain⟨c2,_⟩:=HBA.out.cell 2 (by simp);simp only[Z2,Z3,Z0,Z1]at a2 c0 c1 c2;have HBP:=hid hbp;have HOW:=hid (hown.mono (show rb+1≤_ from HB8.out.rd.lt));have HEC:=hid (Tm.bu.of henc);clear hr9 hg9 hbp hown henc HBK k1 k2;have hgt:=ah HG5.out HBA.out.gr;have HGT:=hid hgt;have hownA:=HY.out.own.grown hgt (fun y hy e=>by injection e with e;have ho:=HY.out.own;subst hy;have:=ho.lt.1;have:=HY.out.lt;omega);rw[HN.out]at hownA;have HOA:=hid hownA;have hbs:w2.heap.size≤(w9.setCell ⟨w6.heap.size,2,none⟩ (.slice ga (Tm.Its.len l) cb)).heap.size:=Nat.le_trans HY.out.gr.size hgt.size;clear hgt hownA;have HSZ9:Hid (w9.heap.size=(w9.setCell ⟨w6.heap.size,2,none⟩ (.slice ga (Tm.Its.len l) cb)).heap.size):=hid (by simp);go_wp2_with (with_reducible refine lU (w9.setCell ⟨w6.heap.size,2,none⟩ (.slice ga (Tm.Its.len l) cb)) w9.heap.size HSZ9.out rfl _ _ 23 rfl w2.heap.size 97 (.agg #[.string ByteArray.empty,.int .i64 0,.slice none 0 0]) 3 48 Tryz.underlying23 Fj rfl (by decide) a n cap vs rfl HOA.out [.string (aa u.1),.int .i64 (at_:Nat),.slice ga (Tm.Its.len l) cb] rfl (by simp[Value.oneCell']) rfl hs1 hs2 hbs ?_;intro a' cap' wB hownB hgrowB hlocB hszB hexB);have HSB:=hid (HY.out.push (by rw[HN.out];exact H8.out) HST.out HU.out HBP.out HBA.out.rd HGT.out (HOW.out.an fun y hy=>by have ho:=HOW.out;subst hy;exact HK2.out _ _ (by have:=ho.lt.1;omega) ho.row.2.2.2.2) (Tm.Enc.sX HK1.out HK2.out _ _ HEC.out) (by rw[HN.out,← HATU.out];exact hownB) hgrowB);have hml:Rd.leftOf wB rb < Rd.leftOf w4 rb:=by
        rw[HSB.out.rd.left,HY.out.rd.left];have:=HBP.out.suf.2;simp only[Z6];omega
       have HML:=hid hml;have hl5:(ls++[(⟨u.1,u.2,l⟩:Tm.Ty)]).length=n+1:=by rw[Z7,HN.out];rfl
       clear hownB hgrowB hlocB hszB hexB hml;go_wp2_with fail;go_roundw
       case rel=>exact⟨ls++[⟨u.1,u.2,l⟩],a',cap',R2,_,by rw[hl5],HSB⟩
       case measure=>exact HML.out
      ·skip
       have hg3:=ah (ah HY.out.gr (ah HG5.out HB8.out.gr)) g3;have hg:w2.heap.size≤g:=Nat.le_trans ((ah HY.out.gr (ah HG5.out HB8.out.gr))).size g2;have hbox3:=HS.out.box.of_heap (hg3.block w.heap.size HS.out.box.lt (fun e=>by injection e with e;have:=HS.out.lt;omega));have hc3:=hbox3.cell0 0 (by simp);have hf3:=hbox3.frozen 0 (by simp);simp only[Z0]at hc3;have hl3:=hbox3.lt;have HB3:=hid (HS.out.bel.grown hg3 HS.out.bel.size (fun k e=>by injection e with e;have:=HS.out.lt;omega));have hgne:w.heap.size < g:=by have:=HS.out.bel.size;have h2:=HS.out.lt;have h3:=HS.out.rd.lt;omega
       have HROW:=hid g1;have HGN:=hid hgne;have HNEG:=hid (show ∀L,¬Tm.Tys s.length 0 T L from HY.out.stuck (by simp) (fun _ t2 m U R ty e1 e2 e3 e4=>by cases e1;exact hno _ _ e4));clear hg hg3 hbox3 hgne;go_wp2_with fail;refine leaves_cons (f:=49) (args:= #[.pointer (some ⟨w.heap.size,0,none⟩)]) (by simp) (by simp[go_sem]) ?_;refine(fI w.heap.size .nilIface g [] _ hc3 hf3 hl3).mono ?_;rintro e u' wz ⟨rfl,rfl,o,rfl⟩;have hc5:(w9.setCell ⟨w.heap.size,0,none⟩ (.iface 120 (.pointer (some ⟨g,0,none⟩)))).cell? ⟨w.heap.size,0,none⟩=some (.iface 120 (.pointer (some ⟨g,0,none⟩))):=World.cell?_setCell_same' _ _ _ (by rw[hc3];rfl);have hb6:=(Y4 (w9.setCell ⟨w.heap.size,0,none⟩ (.iface 120 (.pointer (some ⟨g,0,none⟩)))).heap.size (w9.setCell ⟨w.heap.size,0,none⟩ (.iface 120 (.pointer (some ⟨g,0,none⟩))))).alloc (Z5 _) o;have hc6:((w9.setCell ⟨w.heap.size,0,none⟩ (.iface 120 (.pointer (some ⟨g,0,none⟩)))).alloc o).cell? ⟨w.heap.size,0,none⟩=some (.iface 120 (.pointer (some ⟨g,0,none⟩))):=(hb6.cell (p:=⟨w.heap.size,0,none⟩) (by simpa using hl3)).trans hc5;have hrow6:=((HROW.out.far (p:=⟨w.heap.size,0,none⟩) (Nat.ne_of_gt HGN.out) (.iface 120 (.pointer (some ⟨g,0,none⟩)))).alloc o);have hbel:Below w.heap.size w ((w9.setCell ⟨w.heap.size,0,none⟩ (.iface 120 (.pointer (some ⟨g,0,none⟩)))).alloc o):=(HB3.out.setCell (p:=⟨w.heap.size,0,none⟩) (Z5 _) _).alloc (by simpa using HB3.out.size) o;simp[Leaves,settle,results,Tryz.results25,go_sem,hc6];exact⟨hbel,.inr ⟨HNEG.out,g,_,_,rfl,hrow6⟩⟩
     ·skip
      have hg3:=ah (ah HY.out.gr (ah HG5.out HB6.out.gr)) g3;have hg:w2.heap.size≤g:=Nat.le_trans ((ah HY.out.gr (ah HG5.out HB6.out.gr))).size g2;have hbox3:=HS.out.box.of_heap (hg3.block w.heap.size HS.out.box.lt (fun e=>by injection e with e;have:=HS.out.lt;omega));have hc3:=hbox3.cell0 0 (by simp);have hf3:=hbox3.frozen 0 (by simp);simp only[Z0]at hc3;have hl3:=hbox3.lt;have HB3:=hid (HS.out.bel.grown hg3 HS.out.bel.size (fun k e=>by injection e with e;have:=HS.out.lt;omega));have hgne:w.heap.size < g:=by have:=HS.out.bel.size;have h2:=HS.out.lt;have h3:=HS.out.rd.lt;omega
      have HROW:=hid g1;have HGN:=hid hgne;have HNEG:=hid (show ∀L,¬Tm.Tys s.length 0 T L from HY.out.stuck (by simp) (fun _ t2 m U R ty e1 e2 e3 _=>by cases e1;rw[show Tm.al (m::U)=m.1 from rfl,e3]at hno;cases hno));clear hg hg3 hbox3 hgne;go_wp2_with fail;refine leaves_cons (f:=49) (args:= #[.pointer (some ⟨w.heap.size,0,none⟩)]) (by simp) (by simp[go_sem]) ?_;refine(fI w.heap.size .nilIface g [] _ hc3 hf3 hl3).mono ?_;rintro e u' w9 ⟨rfl,rfl,o,rfl⟩;have hc5:(w7.setCell ⟨w.heap.size,0,none⟩ (.iface 120 (.pointer (some ⟨g,0,none⟩)))).cell? ⟨w.heap.size,0,none⟩=some (.iface 120 (.pointer (some ⟨g,0,none⟩))):=World.cell?_setCell_same' _ _ _ (by rw[hc3];rfl);have hb6:=(Y4 (w7.setCell ⟨w.heap.size,0,none⟩ (.iface 120 (.pointer (some ⟨g,0,none⟩)))).heap.size (w7.setCell ⟨w.heap.size,0,none⟩ (.iface 120 (.pointer (some ⟨g,0,none⟩))))).alloc (Z5 _) o;have hc6:((w7.setCell ⟨w.heap.size,0,none⟩ (.iface 120 (.pointer (some ⟨g,0,none⟩)))).alloc o).cell? ⟨w.heap.size,0,none⟩=some (.iface 120 (.pointer (some ⟨g,0,none⟩))):=(hb6.cell (p:=⟨w.heap.size,0,none⟩) (by simpa using hl3)).trans hc5;have hrow6:=((HROW.out.far (p:=⟨w.heap.size,0,none⟩) (Nat.ne_of_gt HGN.out) (.iface 120 (.pointer (some ⟨g,0,none⟩)))).alloc o);have hbel:Below w.heap.size w ((w7.setCell ⟨w.heap.size,0,none⟩ (.iface 120 (.pointer (some ⟨g,0,none⟩)))).alloc o):=(HB3.out.setCell (p:=⟨w.heap.size,0,none⟩) (Z5 _) _).alloc (by simpa using HB3.out.size) o;simp[Leaves,settle,results,Tryz.results25,go_sem,hc6];exact⟨hbel,.inr ⟨HNEG.out,g,_,_,rfl,hrow6⟩⟩
   ·have q2:(t.1==[115,116,114,117,99,116])=false:=by rw[Z8];exact hst
    have HST:=hid hst;clear hfew hst;go_wp2_with fail;refine HTX.out.mono ?_;rintro e w4 ⟨rfl,rfl⟩;go_wp2_with fail;refine HTX.out.mono ?_;rintro e w4 ⟨rfl,rfl⟩;go_wp2_with fail;refine HM.out.mono ?_;rintro e w3 (⟨t',R,hcons,hx,_⟩|⟨hno,g,en,p,rfl,g1,g2,g3⟩)
    ·cases hcons;exact absurd hx HST.out
    ·skip
     have hg3:=ah HY.out.gr g3;have hg:w2.heap.size≤g:=Nat.le_trans (HY.out.gr).size g2;have hbox3:=HS.out.box.of_heap (hg3.block w.heap.size HS.out.box.lt (fun e=>by injection e with e;have:=HS.out.lt;omega));have hc3:=hbox3.cell0 0 (by simp);have hf3:=hbox3.frozen 0 (by simp);simp only[Z0]at hc3;have hl3:=hbox3.lt;have HB3:=hid (HS.out.bel.grown hg3 HS.out.bel.size (fun k e=>by injection e with e;have:=HS.out.lt;omega));have hgne:w.heap.size < g:=by have:=HS.out.bel.size;have h2:=HS.out.lt;have h3:=HS.out.rd.lt;omega
     have HROW:=hid g1;have HGN:=hid hgne;have HNEG:=hid (show ∀L,¬Tm.Tys s.length 0 T L from HY.out.stuck (by simp) (fun _ t2 m U R ty e1 e2 _ _=>by cases e1;exact HST.out e2));clear hg hg3 hbox3 hgne;go_wp2_with fail;refine leaves_cons (f:=49) (args:= #[.pointer (some ⟨w.heap.size,0,none⟩)]) (by simp) (by simp[go_sem]) ?_;refine(fI w.heap.size .nilIface g [] _ hc3 hf3 hl3).mono ?_;rintro e u' w9 ⟨rfl,rfl,o,rfl⟩;have hc5:(w3.setCell ⟨w.heap.size,0,none⟩ (.iface 120 (.pointer (some ⟨g,0,none⟩)))).cell? ⟨w.heap.size,0,none⟩=some (.iface 120 (.pointer (some ⟨g,0,none⟩))):=World.cell?_setCell_same' _ _ _ (by rw[hc3];rfl);have hb6:=(Y4 (w3.setCell ⟨w.heap.size,0,none⟩ (.iface 120 (.pointer (some ⟨g,0,none⟩)))).heap.size (w3.setCell ⟨w.heap.size,0,none⟩ (.iface 120 (.pointer (some ⟨g,0,none⟩))))).alloc (Z5 _) o;have hc6:((w3.setCell ⟨w.heap.size,0,none⟩ (.iface 120 (.pointer (some ⟨g,0,none⟩)))).alloc o).cell? ⟨w.heap.size,0,none⟩=some (.iface 120 (.pointer (some ⟨g,0,none⟩))):=(hb6.cell (p:=⟨w.heap.size,0,none⟩) (by simpa using hl3)).trans hc5;have hrow6:=((HROW.out.far (p:=⟨w.heap.size,0,none⟩) (Nat.ne_of_gt HGN.out) (.iface 120 (.pointer (some ⟨g,0,none⟩)))).alloc o);have hbel:Below w.heap.size w ((w3.setCell ⟨w.heap.size,0,none⟩ (.iface 120 (.pointer (some ⟨g,0,none⟩)))).alloc o):=(HB3.out.setCell (p:=⟨w.heap.size,0,none⟩) (Z5 _) _).alloc (by simpa using HB3.out.size) o;simp[Leaves,settle,results,Tryz.results25,go_sem,hc6];exact⟨hbel,.inr ⟨HNEG.out,g,_,_,rfl,hrow6⟩⟩
theorem kU(pb:Nat)(x:Value)(g:Nat)(older:List PanicEntry)(w:World)(hc:w.cell? ⟨pb,0,none⟩=some x)(hz:w.frozen? ⟨pb,0,none⟩=false)(hp:pb < w.heap.size):
  CallsD Tryz.prog 56 #[.pointer (some ⟨pb,0,none⟩)] (.panicking ({v:= .iface 101 (.agg #[.iface 120 (.pointer (some ⟨g,0,none⟩))]),recovered:=false}::older)) w fun e u' w'=>
   e= .returned (.tuple #[])∧u'= .panicking ({v:= .iface 101 (.agg #[.iface 120 (.pointer (some ⟨g,0,none⟩))]),recovered:=true}::older)∧∃o,w'=(w.setCell ⟨pb,0,none⟩ (.iface 120 (.pointer (some ⟨g,0,none⟩)))).alloc o:=by
 refine callsD_of_wpS Tryz.func56 rfl fun c₀ cs hu=> ?_
 simp only[Tryz.ntmps56,List.size_toArray,Z6,Y3,Nat.reduceAdd,Nat.reduceSub,Array.replicate_succ,Array.replicate_zero,List.push_toArray,List.append_toArray,List.nil_append,List.cons_append];apply wpS_seq;apply wpS_region;simp[wpOpsS,go_sem,recoverD,hu,Tryz.ntmps56,Exit.thenS];refine wpS_of_wp ?_;have hta:∀V:World,(Instr.typeAssert (.iface 101 (.agg #[.iface 120 (.pointer (some ⟨g,0,none⟩))])) 20 101 true).run Tryz.prog V= .ok (.tuple #[.agg #[.iface 120 (.pointer (some ⟨g,0,none⟩))],.bool true]) V:=fun V=>by kernel_rfl
 go_wp2_with fail;exact⟨rfl,_,rfl,.tuple #[],results_none rfl _ _ _,rfl,rfl,_,rfl⟩
theorem xg(pb:Nat)(w:World):
  CallsD Tryz.prog 56 #[.pointer (some ⟨pb,0,none⟩)] .returning w fun e u' w'=>e= .returned (.tuple #[])∧u'= .returning∧w'=w:=by
 refine callsD_of_wpS Tryz.func56 rfl fun c₀ cs hu=> ?_
 simp only[Tryz.ntmps56,List.size_toArray,Z6,Y3,Nat.reduceAdd,Nat.reduceSub,Array.replicate_succ,Array.replicate_zero,List.push_toArray,List.append_toArray,List.nil_append,List.cons_append];apply wpS_seq;apply wpS_region;simp[wpOpsS,go_sem,recoverD,hu,Tryz.ntmps56,Exit.thenS];refine wpS_of_wp ?_;go_wp2_with fail;cases c₀
 simp_all[bodyPostS,results,Tryz.results56]
namespace Tm
theorem Dj{ts:List Wd}{t:Ty}{r:List Ty}{o:Option Nat}(h:o=chk ts (t::r))(h1:ts.contains t.name=true):o=some 9:=by rw[h,chk,if_pos h1]
theorem Dk(ts:List Wd)(t:Ty)(r:List Ty)(h1:ts.contains t.name=false):chk ts (t::r)=match ef ts t.items [] []with| .bad e=>some e| .ok _ _=>chk (t.name::ts) r:=by
 rw[chk,h1,if_neg (by decide)];unfold ef;cases bD ts t.items [] []with
 |bad e=>rfl
 |ok n2 s2=>
  simp only[];cases dw t.items.row <;> rfl
end Tm
def jD(w:World)(o:Option Nat)(e:Ending)(w':World):Prop:=Below w.heap.size w w'∧match o with
 |none=>e= .returned .nilIface
 |some n=>∃g p:Nat,e= .returned (.iface 120 (.pointer (some ⟨g,0,none⟩)))∧ae w' g 0 122 [.int .i64 (n:Nat),.int .i64 (p:Nat)]
structure ChS(w wr:World)(ts:List Tm.Wd):Prop where
 bel:Below w.heap.size w wr
 box:ae wr w.heap.size 0 30 [.nilIface]
 tm:NameSet wr (w.heap.size+1) ts
 lt:w.heap.size+1 < wr.heap.size
theorem Dl(w:World):ChS w ((w.alloc (.cells #[.nilIface] 30)).alloc (.map #[] 0)) []:=by
 have hb:=((Y4 w.heap.size w).alloc (Z5 _) (.cells #[.nilIface] 30));refine⟨hb.alloc (by simp) _,(ae.new w 30 #[.nilIface]).alloc _,?_,by simp⟩;have:=ia.made (P:=Tryz.prog) (k:=9) (e:=3) (w.alloc (.cells #[.nilIface] 30));rw[World.size_alloc]at this;exact this
theorem Dm{w wr:World}{ts:List Tm.Wd}(h:ChS w wr ts)(bx:Obj):
  ItS (wr.alloc bx) (((wr.alloc bx).alloc (.map #[] 0)).alloc (.cells #[.map (some (w.heap.size+1)),.map (some (wr.heap.size+1)),.slice none 0 0] 107)) (wr.heap.size+2) (w.heap.size+1) (wr.heap.size+1) ts [] [] none 0:=by
 have h1:Below wr.heap.size wr (wr.alloc bx):=(Y4 _ _).alloc (Z5 _) _;have h2:Below (wr.alloc bx).heap.size (wr.alloc bx) ((wr.alloc bx).alloc (.map #[] 0)):=(Y4 _ _).alloc (Z5 _) _;have h3:Below ((wr.alloc bx).alloc (.map #[] 0)).heap.size ((wr.alloc bx).alloc (.map #[] 0)) (((wr.alloc bx).alloc (.map #[] 0)).alloc (.cells #[.map (some (w.heap.size+1)),.map (some (wr.heap.size+1)),.slice none 0 0] 107)):=(Y4 _ _).alloc (Z5 _) _;have hlt:=h.lt;have t1:=h.tm.an (h1.block _ h.tm.lt);have t2:=t1.an (h2.block _ t1.lt);have t3:=t2.an (h3.block _ t2.lt);have m2:=ia.made (P:=Tryz.prog) (k:=9) (e:=3) (wr.alloc bx);rw[World.size_alloc]at m2;have m3:=m2.an (h3.block _ m2.lt);refine⟨h2.trans (h3.mono h2.size),?_,by simp,t3,m3,by simp,ak.nil _ _ _ _,by omega⟩;have:=ae.new ((wr.alloc bx).alloc (.map #[] 0)) 107 #[.map (some (w.heap.size+1)),.map (some (wr.heap.size+1)),.slice none 0 0];rw[World.size_alloc,World.size_alloc]at this;exact this
theorem ChS.done{w wr w4 w5:World}{ts ns' seen:List Tm.Wd}{bx:Obj}{cb mb sc:Nat}{sa:Option Addr}{s:Tm.Wd}(h:ChS w wr ts)(hi:ItS (wr.alloc bx) w4 cb (w.heap.size+1) mb ts ns' seen sa sc)(hm:ia Tryz.prog 9 3 w5 (w.heap.size+1) (ts.length+1) (s::ts))(hg:w4.grownBy w5 (some (w.heap.size+1))):ChS w w5 (s::ts):=by
 have h1:Below wr.heap.size wr (wr.alloc bx):=(Y4 _ _).alloc (Z5 _) _;have h4:Below wr.heap.size wr w4:=h1.trans (hi.bel.mono (by simp));have hb:=h.bel.trans (h4.mono h.bel.size);have hbx:=h.box.below h4 h.box.lt;refine⟨hb.grown hg hb.size (fun k e=>by injection e with e;omega),hbx.of_heap (hg.block _ hbx.lt (fun e=>by injection e with e;omega)),hm,?_⟩;have:=h.lt;have h5:=h4.size;have h6:=hg.size;omega
theorem Dp(tys:List Tm.Ty)(w:World)(rb cap B:Nat)(a:Option Addr)(vs:List Value)(ho:ak w B 97 3 a tys.length cap vs)(he:Tm.cI w rb tys vs)(hF:∀t∈tys,Tm.bg t∧Tm.oV t.items∧Tm.Its.sz t.items≤100000)(hn:tys.length≤100):
  Calls Tryz.prog 26 #[.slice a tys.length cap] w (jD w (Tm.chk [] tys)):=by
 have hcap:tys.length≤cap:=aW ho;obtain⟨n,hn'⟩:∃n,n=tys.length:=⟨_,rfl⟩;rw[← hn']at hcap hn⊢;have HO:=hid ho;have HE:=hid he;have HF:=hid hF;have HN:=hid hn';have hmk:∀V,(Instr.makeMap 103 none).run Tryz.prog V= .ok (.map (some V.heap.size)) (V.alloc (.map #[] 0)):=fun V=>by kernel_rfl
 have S0:=hid (Dl w);clear ho he hF hn'
 go_enter_defers Tryz.func26,Tryz.ntmps26
 go_wp2_with fail;go_loopw [11] (fun v11 wr=>∃(i:Nat) (ts:List Tm.Wd),v11= .int .i64 (i:Nat)∧i≤n∧Hid (Tm.chk [] tys=Tm.chk ts (tys.drop i))∧Hid (ChS w wr ts)∧Hid (ts.length=i)) (fun v11 _=>n - (intOf v11).toNat)
 case atStart=>exact⟨0,[],rfl,Nat.zero_le _,hid rfl,S0,hid rfl⟩
 case round=>
  obtain⟨i,ts,rfl,hi,HQ,HS,HTL⟩:=hrel;clear S0
  by_cases hin:i < n
  ·have q1:decide ((i:Int) < (n:Int))=true:=Z9 (by omega);have q2:decide (i < n)=true:=Z9 hin;have hii:(i:Int) < (n:Int):=by omega
   have HLT:=hid hin;obtain⟨x,rfl⟩:∃x,a=some x:=by
    cases a with
    |none=>have:=HO.out.aS.1;rw[← HN.out]at this;omega
    |some x=>exact⟨x,rfl⟩
   obtain⟨gb,rfl⟩:∃gb,x=⟨gb,0,none⟩:=⟨x.block,HO.out.row.1⟩;obtain⟨t,r,hdr⟩:=Tm.iz tys i (by rw[← HN.out];exact hin);have hmem:t∈tys:=by
    have:t∈tys.drop i:=by rw[hdr];simp
    exact List.mem_of_mem_drop this
   obtain⟨hft,hfx,hfs⟩:=HF.out t hmem;obtain⟨ga,capb,bs,g1,g2,g3,g4⟩:=Tm.cI.ty HO.out HE.out hdr;rw[hdr]at HQ;have HNX:=hid g4;have HFT:=hid hft;have HFX:=hid hfx;have HFS:=hid hfs;have hbel1:Below w.heap.size w (wr.alloc (.cells #[.string (aa t.name),.int .i64 (t.at_:Nat),.slice ga (Tm.Its.len t.items) capb] 97)):=HS.out.bel.alloc HS.out.bel.size _;have HOB:=hid (g1.below hbel1 (Z5 _));have HEB:=hid (show Tm.bu _ rb t.items bs from Tm.Enc.grown (ar hbel1 (some rb)) t.items bs g2);have hrow:=g3.below HS.out.bel g3.lt;have c0:=hrow.cell 0 (by simp);have c1:=hrow.cell 1 (by simp);have c2:=hrow.cell 2 (by simp);simp only[Z0,Z1,Y2]at c0 c1 c2;have HBX:=hid (ae.new wr 97 #[.string (aa t.name),.int .i64 (t.at_:Nat),.slice ga (Tm.Its.len t.items) capb]);have hnl:t.name.length≤100000:=by have:=Tm.cg hft.1.2;omega
   have htm1:=HS.out.tm.an (((Y4 wr.heap.size wr).alloc (Z5 _) (.cells #[.string (aa t.name),.int .i64 (t.at_:Nat),.slice ga (Tm.Its.len t.items) capb] 97)).block _ HS.out.tm.lt);have hk9:=htm1.look Tryz.underlying9 Tryz.underlying103 Tryz.underlying3 (uH _) t.name hnl;have HI0:=hid (Dm HS.out (.cells #[.string (aa t.name),.int .i64 (t.at_:Nat),.slice ga (Tm.Its.len t.items) capb] 97));have HBEL1:=hid hbel1;have HNL:=hid hnl;have hb31:=HI0.out.bel;have c23:=(HBX.out.below hb31 HBX.out.lt).cell0 2 (by simp);simp only[Z0,Z1]at c23;clear g1 g2 g3 g4 hrow hdr hmem hft hfx hfs hbel1 hnl htm1 hb31;cases hin9:ts.contains t.name with
   |true=>
    simp only[hin9,if_true]at hk9;have HIN:=hid hin9;clear hin9 c23;go_wp2_with fail;refine(cB 9 t.at_ _).mono ?_;rintro e w9 ⟨rfl,g1,g2⟩;obtain⟨V1,hV1⟩:∃V1,V1=wr.alloc (.cells #[.string (aa t.name),.int .i64 (t.at_:Nat),.slice ga (Tm.Its.len t.items) capb] 97):=⟨_,rfl⟩;rw[← hV1]at g1 g2⊢HBEL1;have hbx1:ae V1 w.heap.size 0 30 [.nilIface]:=by rw[hV1];exact HS.out.box.alloc _
    obtain⟨g,hg⟩:∃g,g=V1.heap.size:=⟨_,rfl⟩;rw[← hg]at g1⊢;clear hV1 hg;have hbox3:=hbx1.below g2 hbx1.lt;have hc3:=hbox3.cell0 0 (by simp);have hf3:=hbox3.frozen 0 (by simp);simp only[Z0]at hc3;have hl3:=hbox3.lt;have HROW:=hid g1;have HBX3:=hid hbox3;have HB3:=hid (HBEL1.out.trans (g2.mono HBEL1.out.size));have HEQ:=hid (Tm.Dj HQ.out HIN.out:Tm.chk [] tys=some 9);clear hbox3;go_wp2_with fail;refine leaves_cons (f:=56) (args:= #[.pointer (some ⟨w.heap.size,0,none⟩)]) (by simp) (by simp[go_sem]) ?_;refine(kU w.heap.size .nilIface g [] _ hc3 hf3 hl3).mono ?_;rintro e u' wz ⟨rfl,rfl,o,rfl⟩;have hc5:(w9.setCell ⟨w.heap.size,0,none⟩ (.iface 120 (.pointer (some ⟨g,0,none⟩)))).cell? ⟨w.heap.size,0,none⟩=some (.iface 120 (.pointer (some ⟨g,0,none⟩))):=World.cell?_setCell_same' _ _ _ (by rw[hc3];rfl);have hb6:=(Y4 (w9.setCell ⟨w.heap.size,0,none⟩ (.iface 120 (.pointer (some ⟨g,0,none⟩)))).heap.size (w9.setCell ⟨w.heap.size,0,none⟩ (.iface 120 (.pointer (some ⟨g,0,none⟩))))).alloc (Z5 _) o;have hc6:((w9.setCell ⟨w.heap.size,0,none⟩ (.iface 120 (.pointer (some ⟨g,0,none⟩)))).alloc o).cell? ⟨w.heap.size,0,none⟩=some (.iface 120 (.pointer (some ⟨g,0,none⟩))):=(hb6.cell (p:=⟨w.heap.size,0,none⟩) (by simpa using hl3)).trans hc5;have hgne:g≠w.heap.size:=by
     intro e;have:=(e▸HROW.out:ae w9 w.heap.size 0 122 _).ty HBX3.out;exact absurd this (by decide)
    have hrow6:=((HROW.out.far (p:=⟨w.heap.size,0,none⟩) hgne (.iface 120 (.pointer (some ⟨g,0,none⟩)))).alloc o);have hbel:Below w.heap.size w ((w9.setCell ⟨w.heap.size,0,none⟩ (.iface 120 (.pointer (some ⟨g,0,none⟩)))).alloc o):=(HB3.out.setCell (p:=⟨w.heap.size,0,none⟩) (Z5 _) _).alloc (by simpa using HB3.out.size) o;simp[Leaves,settle,results,Tryz.results26,go_sem,hc6];refine⟨hbel,?_⟩;rw[HEQ.out];exact⟨g,_,rfl,hrow6⟩
   |false=>
    simp only[hin9,Bool.false_eq_true,if_false]at hk9;have HIN:=hid hin9;clear hin9;have HIT:=hid (Dh t.items _ _ rb capb _ _ _ 0 ga none bs ts [] [] ⟨HOB.out,HEB.out,HI0.out.bel⟩ HI0.out (by have:=HFS.out;simp;omega) (by have:=HFS.out;simp;omega) (Nat.le_trans (Tm.lA t.items) HFS.out) HFT.out.2 HFX.out);unfold qB iS at HIT;go_wp2_with fail;refine HIT.out.mono ?_;intro e w4 hp4;have HCI:=hid (HQ.out.trans (Tm.Dk ts t r HIN.out));cases hit:Tm.ef ts t.items [] []with
    |bad en=>
     rw[hit]at hp4;obtain⟨hb4,g,p,rfl,g1⟩:=hp4;have HH:=hid hit;clear hit HIT hk9 c0 c1 c2 c23;have hbox3:=((HS.out.box.alloc _).below hb4 (HS.out.box.alloc _).lt);have hc3:=hbox3.cell0 0 (by simp);have hf3:=hbox3.frozen 0 (by simp);simp only[Z0]at hc3;have hl3:=hbox3.lt;have HROW:=hid g1;have HBX3:=hid hbox3;have HB3:=hid (HBEL1.out.trans (hb4.mono HBEL1.out.size));have HEQ:=hid (HCI.out.trans (by rw[HH.out]):Tm.chk [] tys=some en);clear hbox3;go_wp2_with fail;refine leaves_cons (f:=56) (args:= #[.pointer (some ⟨w.heap.size,0,none⟩)]) (by simp) (by simp[go_sem]) ?_;refine(kU w.heap.size .nilIface g [] _ hc3 hf3 hl3).mono ?_;rintro e u' wz ⟨rfl,rfl,o,rfl⟩;have hc5:(w4.setCell ⟨w.heap.size,0,none⟩ (.iface 120 (.pointer (some ⟨g,0,none⟩)))).cell? ⟨w.heap.size,0,none⟩=some (.iface 120 (.pointer (some ⟨g,0,none⟩))):=World.cell?_setCell_same' _ _ _ (by rw[hc3];rfl);have hb6:=(Y4 (w4.setCell ⟨w.heap.size,0,none⟩ (.iface 120 (.pointer (some ⟨g,0,none⟩)))).heap.size (w4.setCell ⟨w.heap.size,0,none⟩ (.iface 120 (.pointer (some ⟨g,0,none⟩))))).alloc (Z5 _) o;have hc6:((w4.setCell ⟨w.heap.size,0,none⟩ (.iface 120 (.pointer (some ⟨g,0,none⟩)))).alloc o).cell? ⟨w.heap.size,0,none⟩=some (.iface 120 (.pointer (some ⟨g,0,none⟩))):=(hb6.cell (p:=⟨w.heap.size,0,none⟩) (by simpa using hl3)).trans hc5;have hgne:g≠w.heap.size:=by
      intro e;have:=(e▸HROW.out:ae w4 w.heap.size 0 122 _).ty HBX3.out;exact absurd this (by decide)
     have hrow6:=((HROW.out.far (p:=⟨w.heap.size,0,none⟩) hgne (.iface 120 (.pointer (some ⟨g,0,none⟩)))).alloc o);have hbel:Below w.heap.size w ((w4.setCell ⟨w.heap.size,0,none⟩ (.iface 120 (.pointer (some ⟨g,0,none⟩)))).alloc o):=(HB3.out.setCell (p:=⟨w.heap.size,0,none⟩) (Z5 _) _).alloc (by simpa using HB3.out.size) o;simp[Leaves,settle,results,Tryz.results26,go_sem,hc6];refine⟨hbel,?_⟩;rw[HEQ.out];exact⟨g,_,rfl,hrow6⟩
    |ok ns4 s4=>
     rw[hit]at hp4;obtain⟨rfl,sa4,sc4,hs4⟩:=hp4;have HH:=hid hit;have S4:=hid hs4;have d0:=(HBX.out.below hs4.bel HBX.out.lt).cell0 0 (by simp);simp only[Z0]at d0;clear hit HIT hk9 c0 c1 c2 c23 hs4;go_wp2_with (refine kS w4 rfl _ _ _ 103 rfl 9 3 Tryz.underlying103 Tryz.underlying9 Tryz.underlying3 (w.heap.size+1) ts.length ts rfl S4.out.tm (by have:=HTL.out;show ts.length < 9223372036854775807;omega) t.name HNL.out rfl rfl ?_;intro w5 hm5 hg5);have S5:=hid (HS.out.done S4.out hm5 hg5);have HQ5:=hid (show Tm.chk [] tys=Tm.chk (t.name::ts) (tys.drop (i+1)) by rw[HCI.out,HH.out,HNX.out]);clear hm5 hg5 d0;go_wp2_with fail;go_roundw
     case rel=>exact⟨i+1,t.name::ts,by go_num,by have:=HLT.out;omega,HQ5,S5,hid (by rw[Z6,HTL.out])⟩
     case measure=>simp[intOf];have:=HLT.out;omega
  ·obtain rfl:i=n:=by omega
   have q1:decide ((i:Int) < (i:Int))=false:=by simp
   have q2:decide (i < i)=false:=by simp
   have HEQ:=hid (show Tm.chk [] tys=none by rw[HQ.out,HN.out,List.drop_length];rfl);have hc3:=HS.out.box.cell0 0 (by simp);have hf3:=HS.out.box.frozen 0 (by simp);simp only[Z0]at hc3;have hc4:(wr.setCell ⟨w.heap.size,0,none⟩ .nilIface).cell? ⟨w.heap.size,0,none⟩=some .nilIface:=World.cell?_setCell_same' _ _ _ (by rw[hc3];rfl);go_wp2_with fail;refine leaves_cons (f:=56) (args:= #[.pointer (some ⟨w.heap.size,0,none⟩)]) (by simp) (by simp[go_sem]) ?_;refine(xg w.heap.size _).mono ?_;rintro e u' w5 ⟨rfl,rfl,rfl⟩;simp[Leaves,settle,results,Tryz.results26,go_sem,hc4];refine⟨HS.out.bel.setCell (p:=⟨w.heap.size,0,none⟩) (Z5 _) _,?_⟩;rw[HEQ.out]
namespace Tm
theorem jE:∀x:Ex.X,(cf x).length≤nodes x
 | .num _ _=>by simp[cf,nodes]
 | .name _ _=>by simp[cf,nodes]
 | .bin _ _ l r=>by
  have h1:=jE l;have h2:=jE r;simp only[cf,nodes,Z7];omega
variable{E d:Nat}
theorem xh{T R:List Rd.Tok}{x:Ex.X}(h:eK E T x R)(hw:cV T):(prX x).length+30 * R.length≤30 * T.length∧(cf x).length+R.length≤T.length:=by
 have h1:=yW h x R rfl;simp only[Y2]at h1;have h2:=nD x (h.eE hw).1;have h3:=jE x;exact⟨by show(Ex.pr Num.dec x).length+_≤_;omega,by omega⟩
theorem xi{r:Rl}(h:AM r):(bt none r).length≤34:=by
 cases r with
 |none=>simp[bt]
 |size f=>have:=cg h.2;simp[bt,dE];omega
 |count f=>have:=cg h.2;simp[bt,cw];omega
 |check f l=>
  have h1:=cg h.1.2;have h2:=cg h.2.2
  by_cases hlf:l=f
  ·subst hlf;simp[bt,bN];omega
  ·simp[bt,hlf,bN];omega
theorem Fz{k:Knd}(h:AL k):(kL k).length≤12:=by
 cases k with
 |scalar w=>have:=xe h;simp only[kL];omega
 |bytes=>decide
 |struct t=>exact cg h.2
theorem JL{T R:List Rd.Tok}{a:Hd}(h:HdP E T a R)(hw:cV T)(hd:d≤8):(prH d a).length+64 * R.length≤64 * T.length∧(ee a.cnt).length+R.length≤T.length∧R.length+1≤T.length:=by
 have hf:=h.eE hw;have hk:=Fz hf.1;have hn:=cg hf.2.1.2;have hlen:(prH d a).length=2 * d+(kL a.k).length+1+a.name.length+(bt a.cnt a.ay).length+2:=by
  unfold prH pad;simp only[Z7,Z6,Y3,List.length_replicate];omega
 rw[hlen];cases h with
 |@mk t n s T R k c r h1 h2 h3 h4=>
  simp only[]at hk hn hf⊢;cases h3 with
  |cnt hc hb=>
   cases hc with
   |no h5=>
    have:=xi (r:= .none) trivial;simp only[Z6,ee,Y3]at *
    omega
   |@yes o u T' _ x h5 h6 h7=>
    have hw':cV T':=hw.suf ((List.suffix_cons _ _).trans ((List.suffix_cons _ _).trans (List.suffix_cons _ _)));obtain⟨g1,g2⟩:=xh h6 hw';have g3:(bt (some x) .none).length=(prX x).length+2:=by simp[bt]
    rw[g3];simp only[Z6,ee]at *
    omega
  |@ay w o T' _ _ h5 h6=>
   have h8:=h6.suf.length_le;have h7:=xi hf.2.2.2.1;simp only[Z6,ee,Y3]at *
   omega
theorem Ie{n:Nat}{T R:List Rd.Tok}{l:Its}(h:Blk E d n T l R):cV T→d≤8→T.length≤100000→(prI d l).length+64 * R.length≤64 * T.length∧l.sz+R.length≤T.length∧oV l:=by
 induction h with
 |fin h1=>
  intro _ _ _;simp only[prI,Its.sz,oV,Y3,Z6];exact⟨by omega,by omega,trivial⟩
 |@item d n T R1 R a l h1 h2 h3 ih=>
  intro hw hd hT;obtain⟨g1,g2,g3⟩:=JL h2 hw hd;obtain⟨i1,i2,i3⟩:=ih (hw.suf h2.suf.1) hd (by omega);simp only[prI,Its.sz,oV,Z7];exact⟨by omega,by omega,by omega,i3⟩
 |@when d n t b T T2 R1 R c body l h1 h2 h3 h4 h5 h6 h7 ih1 ih2=>
  intro hw hd hT;have hw1:=hw.suf (List.suffix_cons t T);obtain⟨g1,g2⟩:=xh h3 hw1;have hw2:cV T2:=(hw1.suf h3.suf.1).suf (List.suffix_cons _ _);simp only[Z6]at hT g1 g2⊢;obtain⟨i1,i2,i3⟩:=ih1 hw2 h5 (by omega);have hs:=h6.suf;obtain⟨j1,j2,j3⟩:=ih2 (hw2.suf hs.1) hd (by omega);have hww:dD.length=4:=rfl;refine⟨?_,?_,by omega,i3,j3⟩
  ·unfold prI pad;simp only[Z7,Z6,Y3,List.length_replicate];omega
  ·simp only[Its.sz];omega
theorem Ig{n:Nat}{T:List Rd.Tok}{l:List Ty}(h:Tys E n T l):cV T→T.length≤100000→(cY l).length≤64 * T.length∧∀t∈l,oV t.items∧t.items.sz≤100000:=by
 induction h with
 |fin=>intro _ _;exact⟨by simp[cY],fun t ht=>by cases ht⟩
 |@one n t m b T R l r h1 h2 h3 h4 h5 h6 ih=>
  intro hw hT;have hw3:cV T:=hw.suf ((List.suffix_cons _ _).trans ((List.suffix_cons _ _).trans (List.suffix_cons _ _)));simp only[Z6]at hT⊢;obtain⟨g1,g2,g3⟩:=Ie h5 hw3 (by omega) (by omega);have hs:=h5.suf;obtain⟨i1,i2⟩:=ih (hw3.suf hs.1) (by omega);have hm:=cg h3;have hww:cS.length=6:=rfl;refine⟨?_,fun t' ht'=> ?_⟩
  ·have hpl:(cY (⟨m.1,m.2,l⟩::r)).length=(prT ⟨m.1,m.2,l⟩).length+(cY r).length:=by unfold cY;rw[List.flatMap_cons,Z7]
   rw[hpl];unfold prT;simp only[Z7,Z6,Y3];omega
  ·rcases List.mem_cons.1 ht' with rfl|ht'
   ·exact⟨g3,by simp only[];omega⟩
   ·exact i2 t' ht'
end Tm
theorem sk(s:List UInt8)(w:World)(hs:s.length≤3000)(hm:ej w)(hn:Lex.cZ s 0=none):
  Calls Tryz.prog 25 #[.string (aa s)] w fun e w'=>(∃g,e= .returned (.tuple #[.slice none 0 0,.iface 120 (.pointer (some ⟨g,0,none⟩))]))∧Below w.heap.size w w':=by
 have HL:=hid (vL s (w.alloc (.cells #[.nilIface] 30)) hs (hm.below ((Y4 _ w).alloc (Z5 _) _) (Z5 _)) hn);clear hs hm hn
 go_enter_defers Tryz.func25,Tryz.ntmps25
 go_wp2_with fail;refine HL.out.mono ?_;rintro e w1 ⟨⟨g,rfl⟩,hb⟩;have hbox:w1.cell? ⟨w.heap.size,0,none⟩=some .nilIface:=(hb.cell (p:=⟨w.heap.size,0,none⟩) (by simp)).trans (by simp);have hfz:w1.frozen? ⟨w.heap.size,0,none⟩=false:=(hb.frozen (p:=⟨w.heap.size,0,none⟩) (by simp)).trans (by simp);have hbb:Below w.heap.size w w1:=((Y4 _ w).alloc (Z5 _) _).trans (hb.mono (by simp));have HB:=hid hbb;have hc1:(w1.setCell ⟨w.heap.size,0,none⟩ (.iface 120 (.pointer (some ⟨g,0,none⟩)))).cell? ⟨w.heap.size,0,none⟩=some (.iface 120 (.pointer (some ⟨g,0,none⟩))):=World.cell?_setCell_same' _ _ _ (by rw[hbox];rfl);have hc2:((w1.setCell ⟨w.heap.size,0,none⟩ (.iface 120 (.pointer (some ⟨g,0,none⟩)))).setCell ⟨w.heap.size,0,none⟩ (.iface 120 (.pointer (some ⟨g,0,none⟩)))).cell? ⟨w.heap.size,0,none⟩=some (.iface 120 (.pointer (some ⟨g,0,none⟩))):=World.cell?_setCell_same' _ _ _ (by rw[hc1];rfl);clear hb hbb;go_wp2_with fail
 go_region
 all_goals
  go_wp2_with fail;simp[bodyPostD,Leaves,settle,results,Tryz.results25,go_sem,hc2];exact((HB.out.setCell (p:=⟨w.heap.size,0,none⟩) (Z5 _) _).setCell (p:=⟨w.heap.size,0,none⟩) (Z5 _) _).drew
theorem xj{s:List UInt8}{T:List Rd.Tok}(hs:s.length≤3000)(h:Lex.cZ s 0=some T):fK T∧Tm.cV T∧T.length≤s.length:=by
 have hw:=Ex.words s.length s 0 T (Z5 _) h;exact⟨fun t ht=>⟨(hw t ht).1,EL hs h t ht⟩,fun t ht=>hw t ht,(AK s.length s 0 T (Z5 _) h).1⟩
def oI(s:List UInt8)(tys:List Tm.Ty):Prop:=∃T,Lex.cZ s 0=some T∧Tm.Tys s.length 0 T tys
def Kq(w:World)(s:List UInt8)(e:Ending)(w':World):Prop:=
 Below w.heap.size w w'∧((∃tys a cap vs,oI s tys∧e= .returned (.tuple #[.slice a (List.length tys) cap,.nilIface])∧ak w' w.heap.size 97 3 a (List.length tys) cap vs∧Tm.cI w' w.heap.size tys vs)∨((∀tys,¬oI s tys)∧∃g:Nat,e= .returned (.tuple #[.slice none 0 0,.iface 120 (.pointer (some ⟨g,0,none⟩))])))
theorem JM(s:List UInt8)(w:World)(hs:s.length≤3000)(hB:ll w):Calls Tryz.prog 25 #[.string (aa s)] w (Kq w s):=by
 cases h:Lex.cZ s 0 with
 |none=>
  refine(sk s w hs hB.mks h).mono ?_;rintro e w' ⟨⟨g,h1⟩,h2⟩;exact⟨h2,.inr ⟨fun tys ⟨T,h3,_⟩=>(by rw[h]at h3;cases h3),g,h1⟩⟩
 |some T=>
  refine(zK s T w hs hB.mks hB.env h (xj hs h).1).mono ?_;rintro e w' ⟨h1,⟨tys,a,cap,vs,h2,h3,h4,h5⟩|⟨h2,g,n,p,h3,h4⟩⟩
  ·exact⟨h1,.inl ⟨tys,a,cap,vs,⟨T,h,h2⟩,h3,h4,h5⟩⟩
  ·exact⟨h1,.inr ⟨fun tys ⟨T',h5,h6⟩=>by rw[h]at h5;cases h5;exact h2 tys h6,g,h3⟩⟩
theorem oI.det{s:List UInt8}{l m:List Tm.Ty}(h:oI s l)(h':oI s m):l=m:=by
 obtain⟨T,h1,h2⟩:=h;obtain⟨T',h3,h4⟩:=h';rw[h1]at h3;cases h3;exact h2.det m h4
end
section
namespace Tm
open Ex
def ca:List Ty:=[
 ⟨[112,97,105,114],0,.cons ⟨0,.scalar [117,56],[110],none,.size [115]⟩ (.cons ⟨0,.bytes,[115],some (.name 0 [110]),.none⟩ .nil)⟩,
 ⟨[98,111,120],0,.cons ⟨0,.scalar [117,49,54,98,101],[107,105,110,100],none,.none⟩ (.cons ⟨0,.scalar [117,56],[109,97,110,121],none,.count [108]⟩ (.cons ⟨0,.struct [112,97,105,114],[108],some (.name 0 [109,97,110,121]),.none⟩
  (.when 0 (.bin 0 [61,61] (.name 0 [107,105,110,100]) (.num 0 1)) (.cons ⟨0,.scalar [105,56],[109,111,114,101],none,.none⟩ .nil) (.cons ⟨0,.scalar [117,51,50,108,101],[115,117,109],none,.check [107,105,110,100] [108]⟩ .nil))))⟩]
theorem Bh:chk [] ca=none:=by decide+kernel
theorem Kr{w:Wd}(h:w≠[]∧(∀c∈w,Lex.word c=true)∧aP w=true):eN w:=⟨⟨h.1,h.2.1⟩,h.2.2⟩
theorem Dq:∀w∈([[112,97,105,114],[110],[115],[98,111,120],[107,105,110,100],[109,97,110,121],[108],[109,111,114,101],[115,117,109]]:List Wd),w≠[]∧(∀c∈w,Lex.word c=true)∧aP w=true:=by decide+kernel
theorem lB(s:Wd)(hs:s≠[]∧(∀c∈s,Lex.word c=true)∧s.length≤12∧∃c r,s=c::r∧Lex.letter c.toNat=true):il (.name 0 s):=by
 obtain⟨h1,h2,h3,c,r,h4,h5⟩:=hs;exact⟨⟨h1,h3,h2,c,r,h4,h5⟩,by unfold aZ;omega⟩
theorem nk(w:Wd)(h:w∈([[112,97,105,114],[110],[115],[98,111,120],[107,105,110,100],[109,97,110,121],[108],[109,111,114,101],[115,117,109]]:List Wd)):eN w:=Kr (Dq w h)
theorem KF:il (.name 0 [110]):=lB _ ⟨by decide,by decide,by decide,110,[],rfl,by decide⟩
theorem Ih:il (.name 0 [109,97,110,121]):=lB _ ⟨by decide,by decide,by decide,109,_,rfl,by decide⟩
theorem Ii:il (.bin 0 [61,61] (.name 0 [107,105,110,100]) (.num 0 1)):=by
 refine⟨⟨by decide,(lB [107,105,110,100] ⟨by decide,by decide,by decide,107,_,rfl,by decide⟩).1,Ex.EH (Num.dec 1) 1 (Num.sG 1 (by decide))⟩,by decide⟩
theorem fk(w:Wd)(h:(kindOf w).isSome=true):AL (.scalar w):=h
theorem jF:∀t∈ca,bg t:=by
 intro t ht;unfold ca at ht;rcases List.mem_cons.1 ht with rfl|ht
 ·refine⟨nk _ (by simp),⟨fk _ (by decide),nk _ (by simp),fun c hc=>(by cases hc),nk _ (by simp),fun h=>(by cases h),fun _=>⟨_,rfl⟩⟩,⟨trivial,nk _ (by simp),fun c hc=> ?_,trivial,fun _ h=>(by cases h),fun h=>absurd rfl h⟩,trivial⟩;cases hc;exact⟨KF,rfl⟩
 ·rcases List.mem_cons.1 ht with rfl|ht
  ·refine⟨nk _ (by simp),⟨fk _ (by decide),nk _ (by simp),fun c hc=>(by cases hc),trivial,fun h=>(by cases h),fun h=>absurd rfl h⟩,⟨fk _ (by decide),nk _ (by simp),fun c hc=>(by cases hc),nk _ (by simp),fun h=>(by cases h),fun _=>⟨_,rfl⟩⟩,⟨nk _ (by simp),nk _ (by simp),fun c hc=> ?_,trivial,fun h=>(by cases h),fun h=>absurd rfl h⟩,Ii,⟨⟨fk _ (by decide),nk _ (by simp),fun c hc=>(by cases hc),trivial,fun h=>(by cases h),fun h=>absurd rfl h⟩,trivial⟩,⟨fk _ (by decide),nk _ (by simp),fun c hc=>(by cases hc),⟨nk _ (by simp),nk _ (by simp)⟩,fun h=>(by cases h),fun _=>⟨_,rfl⟩⟩,trivial⟩;cases hc;exact⟨Ih,rfl⟩
  ·cases ht
theorem Ij:∀t∈ca,bg t∧Fit 1 0 t.items:=by
 intro t ht;refine⟨jF t ht,?_⟩;unfold ca at ht;rcases List.mem_cons.1 ht with rfl|ht
 ·simp[Fit]
 ·rcases List.mem_cons.1 ht with rfl|ht
  ·simp[Fit]
  ·cases ht
theorem nR:cY ca=[115,116,114,117,99,116,32,112,97,105,114,32,123,10,32,32,117,56,32,110,32,61,32,115,105,122,101,32,115,59,10,32,32,98,121,116,101,115,32,115,91,110,93,59,10,125,10,115,116,114,117,99,116,32,98,111,120,32,123,10,32,32,117,49,54,98,101,32,107,105,110,100,59,10,32,32,117,56,32,109,97,110,121,32,61,32,99,111,117,110,116,32,108,59,10,32,32,112,97,105,114,32,108,91,109,97,110,121,93,59,10,32,32,119,104,101,110,32,107,105,110,100,32,61,61,32,49,32,123,10,32,32,32,32,105,56,32,109,111,114,101,59,10,32,32,125,10,32,32,117,51,50,108,101,32,115,117,109,32,61,32,99,104,101,99,107,32,107,105,110,100,32,108,59,10,125,10]:=by decide+kernel
theorem po:(cY ca).length=177:=by decide+kernel
theorem FA{T:List Tok}(h:Lex.cZ (cY ca) 0=some T)(E:Nat):∃L,cy ca L∧Tys E 0 T L:=by
 have h1:=ln ca jF;unfold texts at h1;rw[h]at h1;have h2:T.map Prod.fst=EM ca:=by simpa using h1
 exact Tys.make (by decide) Ij T h2
theorem Ik:∃T,Lex.cZ (cY ca) 0=some T:=by
 have h1:=ln ca jF;unfold texts at h1;cases h:Lex.cZ (cY ca) 0 with
 |none=>rw[h]at h1;cases h1
 |some T=>exact⟨T,rfl⟩
end Tm
end
section
open Go.RowKit
open Rd
structure qD(w:World)(B:Nat)(s:List UInt8)(tys:List Tm.Ty)(a:Option Addr)(cap:Nat)(vs:List Value):Prop where
 rd:oI s tys
 own:ak w B 97 3 a tys.length cap vs
 enc:Tm.cI w B tys vs
 lv:da w B
 le:B≤w.heap.size
theorem qD.up{w w':World}{B:Nat}{s:List UInt8}{tys:List Tm.Ty}{a:Option Addr}{cap:Nat}{vs:List Value}(h:qD w B s tys a cap vs)(hb:Below w.heap.size w w'):qD w' B s tys a cap vs:=
 ⟨h.rd,h.own.below hb (Z5 _),h.enc.grown (ar hb (some B)),iU h.lv hb h.le,Nat.le_trans h.le hb.size⟩
theorem qD.eE{w:World}{B:Nat}{s:List UInt8}{tys:List Tm.Ty}{a:Option Addr}{cap:Nat}{vs:List Value}(h:qD w B s tys a cap vs)(hs:s.length≤3000):(∀t∈tys,Tm.bg t)∧(∀t∈tys,Tm.bg t∧Tm.oV t.items∧Tm.Its.sz t.items≤100000)∧(Tm.cY tys).length≤64 * s.length∧tys.length≤8:=by
 obtain⟨T,h1,h2⟩:=h.rd;obtain⟨_,h4,h5⟩:=xj hs h1;have h6:=h2.eE h4;obtain⟨h7,h8⟩:=Tm.Ig h2 h4 (by omega);have h9:=h2.few;exact⟨h6,fun t ht=>⟨h6 t ht,h8 t ht⟩,by omega,by omega⟩
theorem zL{w:World}{B:Nat}{s:List UInt8}{tys:List Tm.Ty}{a:Option Addr}{cap:Nat}{vs:List Value}(h:qD w B s tys a cap vs)(hs:s.length≤3000)(hB:ll w):
  Calls Tryz.prog 47 #[.slice a tys.length cap] w fun e w'=>e= .returned (.string (aa (Tm.cY tys)))∧Below w.heap.size w w':=by
 obtain⟨h1,_,h3,h4⟩:=h.eE hs;exact Dc tys h1 w B cap B a vs h.own h.enc h.lv h.le (by omega) (by omega)
theorem lC{w:World}{B:Nat}{s:List UInt8}{tys:List Tm.Ty}{a:Option Addr}{cap:Nat}{vs:List Value}(h:qD w B s tys a cap vs)(hs:s.length≤3000):
  Calls Tryz.prog 26 #[.slice a tys.length cap] w (jD w (Tm.chk [] tys)):=by
 obtain⟨_,h2,_,h4⟩:=h.eE hs;exact Dp tys w B cap B a vs h.own h.enc h2 (by omega)
theorem lD(s:List UInt8)(w:World)(hs:s.length≤3000)(hB:ll w):Calls Tryz.prog 25 #[.string (aa s)] w fun e w'=>Below w.heap.size w w'∧((∃tys a cap vs,qD w' w.heap.size s tys a cap vs∧e= .returned (.tuple #[.slice a (List.length tys) cap,.nilIface]))∨((∀tys,¬oI s tys)∧∃g:Nat,e= .returned (.tuple #[.slice none 0 0,.iface 120 (.pointer (some ⟨g,0,none⟩))]))):=by
 refine(JM s w hs hB).mono ?_;rintro e w' ⟨h1,⟨tys,a,cap,vs,h2,h3,h4,h5⟩|h2⟩
 ·exact⟨h1,.inl ⟨tys,a,cap,vs,⟨h2,h4,h5,iU hB.env.lv h1 (Z5 _),h1.size⟩,h3⟩⟩
 ·exact⟨h1,.inr h2⟩
theorem Dr(w:World)(hB:ll w):Calls Tryz.prog 22 #[] w fun e w'=>Below w.heap.size w w'∧∃tys a cap vs,Tm.cy Tm.ca tys∧qD w' w.heap.size (Tm.cY Tm.ca) tys a cap vs∧e= .returned (.tuple #[.slice a 2 cap,.bool true]):=by
 have hbl:(Tm.cY Tm.ca).length≤3000:=by rw[Tm.po];omega
 have hp:=lD (Tm.cY Tm.ca) w hbl hB;obtain⟨T,hT⟩:=Tm.Ik;obtain⟨L,hL1,hL2⟩:=Tm.FA hT (Tm.cY Tm.ca).length;have hrd:oI (Tm.cY Tm.ca) L:=⟨T,hT,hL2⟩;have hprL:Tm.cY L=Tm.cY Tm.ca:=(Tm.Ct hL1).symm;have hchk:Tm.chk [] L=none:=by rw[Tm.wo hL1 Tm.jF];exact Tm.Bh
 have hlen:L.length=2:=by
  have:∀{l m:List Tm.Ty},Tm.cy l m→l.length=m.length:=by
   intro l m h
   induction h with
   |nil=>rfl
   |cons _ _ ih=>simp[ih]
  exact(this hL1).symm
 have HL1:=hid hL1;have HRD:=hid hrd;have HLEN:=hid hlen;have HCHK:=hid hchk;have HBL:=hid hbl;have HPR:=hid hprL;rw[Tm.nR]at hp;have HP:=hid hp;have HB:=hid hB;clear hp hB hL1 hL2 hrd hprL hchk hlen hbl hT;go_enter Tryz.func22,Tryz.ntmps22;go_wp2_with fail;refine HP.out.mono ?_;rintro e w1 ⟨hb1,⟨tys,a,cap,vs,hm,rfl⟩|⟨hno,_⟩⟩
 ·have hrd':=hm.rd;rw[← Tm.nR]at hrd' hm;obtain rfl:=hrd'.det HRD.out;have HM:=hid hm;have HB1:=hid hb1;have HCK:=hid (lC hm HBL.out);have h2:=HLEN.out;clear hm hb1 hrd' HP;generalize hnn:tys.length=nn at *
  subst h2;go_wp2_with fail;refine HCK.out.mono ?_;intro e w2 hck;unfold jD at hck;rw[HCHK.out]at hck;obtain⟨hb2,rfl⟩:=hck;have HM2:=hid (HM.out.up hb2);have HB2:=hid (HB1.out.trans (hb2.mono HB1.out.size));have hpr:=zL HM2.out HBL.out (HB.out.up HB2.out);rw[hnn,HPR.out]at hpr;obtain⟨P,hP⟩:∃P,P=Tm.cY Tm.ca:=⟨_,rfl⟩;rw[← hP]at hpr;have q1:(P==[115,116,114,117,99,116,32,112,97,105,114,32,123,10,32,32,117,56,32,110,32,61,32,115,105,122,101,32,115,59,10,32,32,98,121,116,101,115,32,115,91,110,93,59,10,125,10,115,116,114,117,99,116,32,98,111,120,32,123,10,32,32,117,49,54,98,101,32,107,105,110,100,59,10,32,32,117,56,32,109,97,110,121,32,61,32,99,111,117,110,116,32,108,59,10,32,32,112,97,105,114,32,108,91,109,97,110,121,93,59,10,32,32,119,104,101,110,32,107,105,110,100,32,61,61,32,49,32,123,10,32,32,32,32,105,56,32,109,111,114,101,59,10,32,32,125,10,32,32,117,51,50,108,101,32,115,117,109,32,61,32,99,104,101,99,107,32,107,105,110,100,32,108,59,10,125,10])=true:=by rw[beq_iff_eq,hP,Tm.nR]
  have HPP:=hid hpr;clear hpr hb2 hP HCK;go_wp2_with fail;refine HPP.out.mono ?_;rintro e w3 ⟨rfl,hb3⟩;have HM3:=hid (HM2.out.up hb3);have HB3:=hid (HB2.out.trans (hb3.mono HB2.out.size));clear hb3;go_wp2_with fail;go_ret2;exact⟨HB3.out,tys,a,cap,vs,HL1.out,HM3.out,rfl⟩
 ·rw[← Tm.nR]at hno;exact absurd HRD.out (hno _)
end
section
namespace Ly
open Ex (X Names ev)
open Tm
theorem Il:∀p∈bp,(p.2.1=1∨p.2.1=2∨p.2.1=4∨p.2.1=8)∧(p.2.2.1=0∨p.2.2.1=1)∧(p.2.2.2=false→p.2.1≤4):=by decide
theorem Ds{w:Wd}(h:(kindOf w).isSome=true):(bo w=1∨bo w=2∨bo w=4∨bo w=8)∧(gh w=0∨gh w=1)∧(eR w=false→bo w≤4):=by
 have h2:=h;unfold kindOf at h;rw[Option.isSome_map]at h;obtain⟨p,hp⟩:=Option.isSome_iff_exists.1 h;have h1:=List.mem_of_find?_eq_some hp;have e:kindOf w=some p.2:=by unfold kindOf;rw[hp];rfl
 unfold bo gh eR;rw[e];exact Il p h1
theorem gS(l:List UInt8)(wd o:Nat):∀(m k:Nat),k < m→byteOf (fN l 0 wd o m) k=(l.getD (plc k wd o) 0).toNat
 |0,k,h=>by omega
 |m+1,k,h=>by
  have hx:=iQ l 0 wd o m;have hb:=(l.getD (0+plc m wd o) 0).toNat_lt;have hp:0 < 256 ^ m:=Nat.pow_pos (by decide);rw[fN]
  by_cases hk:k < m
  ·have ih:=gS l wd o m k hk;have e1:(fN l 0 wd o m+(l.getD (0+plc m wd o) 0).toNat * 256 ^ m) % 256 ^ m=fN l 0 wd o m:=by rw[Nat.add_mul_mod_self_right,Nat.mod_eq_of_lt hx]
   rw[← iR _ m k hk,e1];exact ih
  ·obtain rfl:k=m:=by omega
   unfold byteOf;rw[Nat.add_mul_div_right _ _ hp,Nat.div_eq_of_lt hx,Nat.zero_add,Nat.zero_add,Nat.mod_eq_of_lt (by rw[Nat.zero_add]at hb;omega)]
theorem sP{u:Wd}{wd o:Nat}(h:u.length=wd):mf (fN u 0 wd o wd) wd o=u:=by
 apply List.ext_getElem
 ·rw[oE,h]
 ·intro j h1 h2;have hj:j < wd:=by omega
  have e:=gS u wd o wd (plc j wd o) (nJ hj);rw[ph hj,List.getD_eq_getElem?_getD,Y1 h2,Option.getD_some]at e;simp only[mf,List.getElem_map,List.getElem_range,e];exact UInt8.ofNat_toNat
theorem FB{wd:Nat}(h:wd=1∨wd=2∨wd=4∨wd=8)(v:Int):((fi v % 256 ^ wd:Nat):Int)=v % ((256 ^ wd:Nat):Int):=by
 unfold fi;rcases h with rfl|rfl|rfl|rfl <;> (simp only[Nat.reducePow];omega)
theorem FC{w u:Wd}(hk:(kindOf w).isSome=true)(hu:u.length=bo w):qj w (nL w u)=u∧dG w (nL w u)=true:=by
 obtain⟨h1,h2,h3⟩:=Ds hk;have hg:=iQ u 0 (bo w) (gh w) (bo w);have hp:=sP (o:=gh w) hu;unfold qj dG nL;generalize fN u 0 (bo w) (gh w) (bo w)=g at *
 generalize gh w=o at *
 generalize bo w=wd at *
 have hc:jm (fi (if eR w then iv g wd else((g:Nat):Int))) wd=g:=by
  have hm:=FB h1 (if eR w then iv g wd else((g:Nat):Int));have hgm:(g:Int) % ((256 ^ wd:Nat):Int)=(g:Int):=Int.emod_eq_of_lt (by omega) (by omega);have he:(if eR w then iv g wd else((g:Nat):Int)) % ((256 ^ wd:Nat):Int)=(g:Int):=by
   split
   ·unfold iv jm;rw[Nat.mod_eq_of_lt hg];split
    ·exact hgm
    ·rw[Int.sub_emod_right];exact hgm
   ·exact hgm
  rw[he]at hm;unfold jm;exact Int.ofNat_inj.1 hm
 refine⟨?_,?_⟩
 ·rw[← Ff,show fi (if eR w=true then iv g wd else(g:Int)) % 256 ^ wd=g from hc];exact hp
 ·cases hs:eR w with
  |true=>
   rw[hs]at hc;simp only[if_true]at hc⊢;rw[decide_eq_true_eq];unfold iv;rw[show jm (fi (if jm g wd < 256 ^ wd / 2 then(jm g wd:Int)else(jm g wd:Int) - ((256 ^ wd:Nat):Int))) wd=g from hc,show jm g wd=g from Nat.mod_eq_of_lt hg]
  |false=>
   rw[hs]at hc;simp only[Bool.false_eq_true,if_false]at hc⊢;have h8:256 ^ wd≤18446744073709551616:=kh (by rcases h1 with rfl|rfl|rfl|rfl <;> omega);have e:fi (g:Int)=g:=by unfold fi;omega
   rw[hc,e];simp
def Bi(s:Wd)(S:Sub)(W:Wri):Prop:=∀t st ks st',st.at_≤s.length→S t st=some (ks,st')→Step s st st'∧W t ks=some (seg s st.at_ st'.at_)
theorem qE{s:Wd}{st st1:St}(h:nod st=some st1)(ha:st.at_≤s.length):st1.at_=st.at_∧st1.at_≤s.length:=by
 have:=lx h;exact⟨this,by omega⟩
theorem qF{s:Wd}{S:Sub}{W:Wri}(hS:Bi s S W){N:Names}{h:Hd}(hf:∀w,h.k= .scalar w→(kindOf w).isSome=true){st st':St}{d:Nd}(ha:st.at_≤s.length)(hr:bL S s N h st=some (d,st')):Step s st st'∧aX W h d=some (seg s st.at_ st'.at_):=by
 unfold bL at hr;rw[Option.bind_eq_some_iff]at hr;obtain⟨st1,h1,h2⟩:=hr;obtain⟨e1,l1⟩:=qE h1 ha;unfold aX;cases hk:h.k with
 |scalar w=>
  rw[hk]at h2;simp only[]at h2;rw[Option.map_eq_some_iff]at h2;obtain⟨⟨u,st2⟩,h3,h4⟩:=h2;cases h4;obtain⟨g1,g2,g3⟩:=uA h3 l1;obtain⟨g4,g5⟩:=FC (hf w hk) (u:=u) (by rw[g3];simp);rw[e1]at g2;refine⟨⟨by rw[← e1];exact g1.le,g1.len⟩,?_⟩;simp only[kNo,ne_eq,not_true_eq_false,or_self,if_false];rw[if_pos g5,g4,g2]
 |bytes=>
  rw[hk]at h2;simp only[]at h2;rw[Option.bind_eq_some_iff]at h2;obtain⟨k,_,h2⟩:=h2;rw[Option.map_eq_some_iff]at h2;obtain⟨⟨u,st2⟩,h3,h4⟩:=h2;cases h4;obtain⟨g1,g2,g3⟩:=uA h3 l1;rw[e1]at g2;refine⟨⟨by rw[← e1];exact g1.le,g1.len⟩,?_⟩;simp only[kNo,ne_eq,not_true_eq_false,or_self,if_false,g2]
 |struct t=>
  rw[hk]at h2;simp only[]at h2;rw[Option.map_eq_some_iff]at h2;obtain⟨⟨ks,st2⟩,h3,h4⟩:=h2;cases h4;obtain⟨g1,g2⟩:=hS t st1 ks st2 l1 h3;rw[e1]at g2;refine⟨⟨by rw[← e1];exact g1.le,g1.len⟩,?_⟩;simp only[kNo,ne_eq,not_true_eq_false,or_self,if_false,g2]
theorem xk{s:Wd}{f:St→Option (Nd×St)}{g:Nd→Option Wd}(hf:∀st st' d,st.at_≤s.length→f st=some (d,st')→Step s st st'∧g d=some (seg s st.at_ st'.at_)):∀(k:Nat) (st st':St) (ks:Nds),st.at_≤s.length→rep f k st=some (ks,st')→Step s st st'∧bc g ks=some (seg s st.at_ st'.at_)
 |0,st,st',ks,ha,h=>by
  unfold rep at h;cases h;exact⟨⟨Z5 _,ha⟩,by unfold bc;rw[AV]⟩
 |k+1,st,st',ks,ha,h=>by
  unfold rep at h;rw[Option.bind_eq_some_iff]at h;obtain⟨⟨d,st1⟩,h1,h2⟩:=h;rw[Option.map_eq_some_iff]at h2;obtain⟨⟨r,st2⟩,h3,h4⟩:=h2;cases h4;obtain⟨g1,g2⟩:=hf st st1 d ha h1;obtain⟨g3,g4⟩:=xk hf k st1 _ r g1.len h3;refine⟨⟨Nat.le_trans g1.le g3.le,g3.len⟩,?_⟩;unfold Nd.put bc;simp only[]at g4⊢;rw[g2,g4];simp only[Option.bind_some,Option.map_some];rw[uz s g1.le g3.le]
theorem Im{s:Wd}{S:Sub}{W:Wri}(hS:Bi s S W){N:Names}{h:Hd}(hf:∀w,h.k= .scalar w→(kindOf w).isSome=true){st st':St}{d:Nd}(ha:st.at_≤s.length)(hr:hdR S s N h st=some (d,st')):Step s st st'∧aY W h d=some (seg s st.at_ st'.at_):=by
 unfold hdR at hr;unfold aY;split at hr
 ·rename_i hm
  rw[if_pos hm];unfold iw at hr;rw[Option.bind_eq_some_iff]at hr;obtain⟨st1,h1,h2⟩:=hr;obtain⟨e1,l1⟩:=qE h1 ha;rw[Option.bind_eq_some_iff]at h2;obtain⟨k,_,h2⟩:=h2;split at h2
  ·cases h2
  ·rw[Option.map_eq_some_iff]at h2;obtain⟨⟨ks,st2⟩,h3,h4⟩:=h2;cases h4;obtain⟨g1,g2⟩:=xk (g:=aX W h) (fun st st' d ha hr=>qF hS hf ha hr) k.toNat st1 st2 ks l1 h3;rw[e1]at g2;refine⟨⟨by rw[← e1];exact g1.le,g1.len⟩,?_⟩;simp only[ne_eq,not_true_eq_false,or_self,if_false,g2]
 ·rename_i hm
  rw[if_neg hm];exact qF hS hf ha hr
theorem jG{s:Wd}{S:Sub}{W:Wri}(hS:Bi s S W):∀(l:Its),bG l→∀(N N':Names) (st st':St) (ks:Nds),st.at_≤s.length→bO S s l N st=some (ks,N',st')→Step s st st'∧aF W l ks=some (seg s st.at_ st'.at_)
 | .nil,_,N,N',st,st',ks,ha,h=>by
  unfold bO at h;cases h;exact⟨⟨Z5 _,ha⟩,by unfold aF;rw[AV]⟩
 | .cons h l,hF,N,N',st,st',ks,ha,hr=>by
  unfold bO at hr;rw[Option.bind_eq_some_iff]at hr;obtain⟨⟨d,st1⟩,h1,h2⟩:=hr;rw[Option.map_eq_some_iff]at h2;obtain⟨⟨r,N2,st2⟩,h3,h4⟩:=h2;cases h4;obtain⟨g1,g2⟩:=Im hS (fun w hw=>by have:=hF.1.1;rw[hw]at this;exact this) ha h1;obtain⟨g3,g4⟩:=jG hS l hF.2 _ _ st1 _ r g1.len h3;refine⟨⟨Nat.le_trans g1.le g3.le,g3.len⟩,?_⟩;unfold Nd.put aF;simp only[]at g4⊢;rw[g2,g4];simp only[Option.bind_some,Option.map_some];rw[uz s g1.le g3.le]
 | .when a c b l,hF,N,N',st,st',ks,ha,hr=>by
  unfold bO at hr;rw[Option.bind_eq_some_iff]at hr;obtain⟨st1,h1,hr⟩:=hr;obtain⟨e1,l1⟩:=qE h1 ha;rw[Option.bind_eq_some_iff]at hr;obtain⟨v,_,hr⟩:=hr;rw[Option.bind_eq_some_iff]at hr;obtain⟨⟨kb,N1,st2⟩,h2,h3⟩:=hr;rw[Option.map_eq_some_iff]at h3;obtain⟨⟨r,N2,st3⟩,h4,h5⟩:=h3;cases h5
  by_cases hv:v=0
  ·rw[if_pos hv]at h2;cases h2;obtain⟨g3,g4⟩:=jG hS l hF.2.2 _ _ st1 _ r l1 h4;refine⟨⟨by rw[← e1];exact g3.le,g3.len⟩,?_⟩;unfold aF;rw[e1]at g4;simp only[hv,if_true,ne_eq,not_true_eq_false,or_self,if_false,Option.bind_some,g4,Option.map_some,List.nil_append]
  ·rw[if_neg hv]at h2;obtain⟨g1,g2⟩:=jG hS b hF.2.1 _ _ st1 st2 kb l1 h2;obtain⟨g3,g4⟩:=jG hS l hF.2.2 _ _ st2 _ r g1.len h4;refine⟨⟨by rw[← e1];exact Nat.le_trans g1.le g3.le,g3.len⟩,?_⟩;unfold aF;simp only[hv,if_false,ne_eq,not_true_eq_false,or_self,show ¬((1:Int)=0) by decide,g2,Option.bind_some,g4,Option.map_some];rw[e1,uz s (by rw[← e1];exact g1.le) g3.le]
theorem oJ(s:Wd):∀(l:List Ty),(∀t∈l,bg t)→Bi s (rdS s l) (wrS l)
 |[],_,t,st,ks,st',_,h=>by cases h
 |t::r,hF,nm,st,ks,st',ha,h=>by
  have ih:=oJ s r fun u hu=>hF u (by simp[hu])
  unfold rdS at h;unfold wrS;split at h
  ·rename_i hn
   rw[if_pos hn];rw[Option.map_eq_some_iff]at h;obtain⟨⟨k,N2,st2⟩,h1,h2⟩:=h;cases h2;exact jG ih t.items (hF t (by simp)).2 _ _ st _ _ ha h1
  ·rename_i hn
   rw[if_neg hn];exact ih nm st ks st' ha h
def cm(root:Wd):Hd:=⟨0,.struct root,root,none,.none⟩
theorem qG{s root:Wd}{l:List Ty}(hF:∀t∈l,bg t){d:Nd}{st:St}(h:bL (rdS s l) s (fun _=>none) (cm root) ⟨0,0⟩=some (d,st))(hend:st.at_=s.length):aX (wrS l) (cm root) d=some s:=by
 obtain⟨_,h2⟩:=qF (oJ s l hF) (h:=cm root) (fun w hw=>by cases hw) (Nat.zero_le _) h;rw[h2,hend];unfold seg;simp
end Ly
namespace Ly
open Ex (X Names ev)
open Tm
def kV(ts:List Wd):Its→Prop
 | .nil=>True
 | .cons h l=>(∀t,h.k= .struct t→t∈ts)∧kV ts l
 | .when _ _ b l=>kV ts b∧kV ts l
theorem kt{ts:List Wd}:∀(l:Its) (ns seen ns' seen':List Wd),bD ts l ns seen= .ok ns' seen'→kV ts l
 | .nil,_,_,_,_,_=>trivial
 | .cons h l,ns,seen,ns',seen',e=>by
  unfold bD at e;split at e
  ·cases e
  ·split at e
   ·cases e
   ·rename_i hl
    split at e
    ·refine⟨fun t ht=> ?_,kt l _ _ _ _ e⟩;rw[ht]at hl;have h2:(!ts.contains t)≠true:=hl;simpa using h2
    ·cases e
 | .when a c b l,ns,seen,ns',seen',e=>by
  unfold bD at e;split at e
  ·cases hb:bD ts b ns seen with
   |bad x=>rw[hb]at e;cases e
   |ok n2 s2=>
    rw[hb]at e;simp only[]at e;split at e
    ·cases e
    ·exact⟨kt b _ _ _ _ hb,kt l _ _ _ _ e⟩
  ·cases e
def names(l:List Ty):List Wd:=l.map (·.name)
def gB:List Ty→Prop
 |[]=>True
 |t::r=>t.name∉names r∧kV (names r) t.items∧gB r
theorem tk:∀(l m:List Ty),chk (names m) l=none→gB m→gB (l.reverse++m)
 |[],m,_,h=>h
 |t::l,m,h,hm=>by
  unfold chk at h;split at h
  ·cases h
  ·rename_i hn
   cases hb:bD (names m) t.items [] []with
   |bad x=>rw[hb]at h;cases h
   |ok n2 s2=>
    rw[hb]at h;simp only[]at h;split at h
    ·cases h
    ·rw[List.reverse_cons,List.append_assoc];exact tk l (t::m) h ⟨by simpa using hn,kt _ _ _ _ _ hb,hm⟩
theorem Dt{l:List Ty}(h:chk [] l=none):gB l.reverse:=by
 have:=tk l [] h trivial;simpa using this
theorem jH{s:Wd}{t:Ty}{r:List Ty}{nm:Wd}(h:t.name≠nm)(st:St):rdS s (t::r) nm st=rdS s r nm st:=by
 show(if t.name=nm then _ else _)=_;rw[if_neg h]
theorem uL{s:Wd}{t:Ty}{r:List Ty}(st:St):rdS s (t::r) t.name st=(bO (rdS s r) s t.items (fun _=>none) st).map fun p=>(p.1,p.2.2):=by
 show(if t.name=t.name then _ else _)=_;rw[if_pos rfl]
theorem nS(l:List Ty)(w:Wd):w∈names l.reverse↔w∈names l:=by unfold names;simp
end Ly
end
end Go.Proofs.YtlomecfhobehnaaGreatDoor
