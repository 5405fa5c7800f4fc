import Derived.Test.YtlomecfhobehnaaGreatDoorMgFixDrops19
set_option linter.all false
set_option maxRecDepth 100000
set_option maxHeartbeats 4000000
namespace Go.Proofs.YtlomecfhobehnaaGreatDoor
open Lib (hid)
section
open Go.RowKit
open Rd
namespace Tm
theorem cI.at_{w:World}{rb:Nat}:∀(i:Nat) (l:List Ty) (vs:List Value),cI w rb l vs→cI w rb (l.drop i) (vs.drop (i * 3))
 |0,l,vs,h=>by simpa using h
 |i+1,[],vs,h=>by rw[show vs=[]from h];simp;rfl
 |i+1,t::r,vs,h=>by
  obtain⟨ga,cap,bs,us,h1,h2,rfl,h4⟩:=h;have:=cI.at_ i r us h4;rw[show(i+1) * 3=([.string (aa t.name),.int .i64 (t.at_:Nat),.slice ga t.items.len cap]:List Value).length+i * 3 by simp;omega,mo,List.drop_succ_cons];exact this
theorem cI.ty{w:World}{rb B i cap:Nat}{l:List Ty}{vs:List Value}{x:Addr}{t:Ty}{r:List Ty}(ho:ak w B 97 3 (some x) l.length cap vs)(he:cI w rb l vs)(hd:l.drop i=t::r):
  ∃ga capb bs,ak w (rb+1) 70 13 ga t.items.len capb bs∧bu w rb t.items bs∧ae w x.block (i * 3) 97 [.string (aa t.name),.int .i64 (t.at_:Nat),.slice ga t.items.len capb]∧l.drop (i+1)=r:=by
 have h1:=cI.at_ i l vs he;rw[hd]at h1;obtain⟨ga,capb,bs,us,g1,g2,g3,g4⟩:=h1;refine⟨ga,capb,bs,g1,g2,?_,?_⟩
 ·have:=ho.row.2.2.2.2.part (i * 3) 3;rw[g3,Nat.zero_add]at this;exact this
 ·have:l.drop (i+1)=(l.drop i).tail:=by rw[List.tail_drop]
  rw[this,hd];rfl
theorem iz{α:Type}:∀(l:List α) (i:Nat),i < l.length→∃t r,l.drop i=t::r
 |[],i,h=>by simp at h
 |a::l,0,h=>⟨a,l,rfl⟩
 |a::l,i+1,h=>by rw[List.drop_succ_cons];exact iz l i (by simpa using h)
end Tm
theorem zG(V w:World)(txt:Tm.Wd)(X:ByteArray)(h:ib V w txt)(hlen:txt.length+X.size≤140737488355328):
  Calls Tryz.prog 81 #[.pointer (some ⟨V.heap.size,0,none⟩),.string X] w fun e w'=>(∃n:Nat,e= .returned (.tuple #[.int .i64 (n:Nat),.nilIface]))∧ib V w' (txt++X.data.toList)∧∀(g off:Nat) (e:TypeId) (xs:List Value),g≠V.heap.size→e≠5→ae w g off e xs→ae w' g off e xs:=by
 have:=ji V.heap.size V.heap.size txt X.data.toList w h.bd (by rw[show X.data.toList.length=X.size from Array.length_toList];exact hlen) h.bel.size;refine Calls.mono this ?_;rintro e w' ⟨rfl,h1,h2,h3⟩;exact⟨⟨_,rfl⟩,⟨h.bel.trans h2,h1⟩,h3⟩
theorem Dc(tys:List Tm.Ty)(hF:∀t∈tys,Tm.bg t)(V:World)(rb cap B:Nat)(a:Option Addr)(vs:List Value)(ho:ak V B 97 3 a tys.length cap vs)(he:Tm.cI V rb tys vs)(hlv:da V rb)(hrb:rb≤V.heap.size)(hl:(Tm.cY tys).length≤1000000)(hn:tys.length≤100):
  Calls Tryz.prog 47 #[.slice a tys.length cap] V fun e w'=>e= .returned (.string (aa (Tm.cY tys)))∧Below V.heap.size V w':=by
 have hcap:tys.length≤cap:=aW ho;obtain⟨full,hfull⟩:∃full,full=Tm.cY tys:=⟨_,rfl⟩;rw[← hfull]at hl⊢;obtain⟨n,hn'⟩:∃n,n=tys.length:=⟨_,rfl⟩;rw[← hn']at hcap hn⊢;have HO:=hid ho;have HE:=hid he;have HLV:=hid hlv;have HRB:=hid hrb;have HL:=hid hl;have HF:=hid hF;have HFULL:=hid hfull;have HN:=hid hn';clear ho he hlv hrb hl hF hfull hn';have S0:Hid (ib V (V.alloc (.cells #[.pointer none,.slice none 0 0] 149)) []):=hid ⟨(Y4 _ _).alloc (Z5 _) _,IsB.fresh V⟩;go_enter Tryz.func47,Tryz.ntmps47;go_wp2_with fail;go_loopw [8] (fun v8 wr=>∃(i:Nat) (T:Tm.Wd),v8= .int .i64 (i:Nat)∧i≤n∧Hid (T++Tm.cY (tys.drop i)=full)∧Hid (ib V wr T)) (fun v8 _=>n - (intOf v8).toNat)
 case atStart=>exact⟨0,[],rfl,Nat.zero_le _,hid HFULL.out.symm,S0⟩
 case round=>
  obtain⟨i,T,rfl,hi,HT,HS⟩:=hrel;clear S0
  by_cases hin:i < n
  ·have q1:decide ((i:Int) < (n:Int))=true:=Z9 (by omega);have q2:decide (i < n)=true:=Z9 hin;have hii:(i:Int) < (n:Int):=by omega
   obtain⟨x,rfl⟩:∃x,a=some x:=by
    cases a with
    |none=>have:=HO.out.aS.1;rw[← HN.out]at this;omega
    |some x=>exact⟨x,rfl⟩
   obtain⟨gb,rfl⟩:∃gb,x=⟨gb,0,none⟩:=⟨x.block,HO.out.row.1⟩;obtain⟨t,r,hdr⟩:=Tm.iz tys i (by rw[← HN.out];exact hin);have hmem:t∈tys:=by
    have:t∈tys.drop i:=by rw[hdr];simp
    exact List.mem_of_mem_drop this
   have hft:=HF.out t hmem;obtain⟨ga,capb,bs,g1,g2,g3,g4⟩:=Tm.cI.ty HO.out HE.out hdr;rw[hdr]at HT;have HOB:=hid g1;have HEB:=hid g2;have HNX:=hid g4;have HFT:=hid hft;have hTlen:(T++Tm.cY (t::r)).length≤1000000:=by rw[HT.out];exact HL.out
   have hpl:(Tm.cY (t::r)).length=(Tm.prT t).length+(Tm.cY r).length:=by unfold Tm.cY;rw[List.flatMap_cons,Z7]
   rw[Z7,hpl,show(Tm.prT t).length=_ from by unfold Tm.prT;simp only[Z7,Z6,Y3];rfl]at hTlen;clear hpl;have h7:Tm.cS.length=6:=rfl;have HTL:=hid hTlen;have hnl:=Tm.cg hft.1.2;have hrow:=HS.out.row g3;have c0:=hrow.cell 0 (by simp);have c1:=hrow.cell 1 (by simp);have c2:=hrow.cell 2 (by simp);simp only[Z0,Z1,Y2]at c0 c1 c2;have z1:¬9223372036854775807 < 7+t.name.length:=by omega
   have z2:¬9223372036854775807 < 7+t.name.length+3:=by omega
   have S1:=hid (HS.out.up ((Y4 _ _).alloc (Z5 _) (.cells #[.string (aa t.name),.int .i64 (t.at_:Nat),.slice ga (Tm.Its.len t.items) capb] 97)));have HBX:=hid (ae.new wr 97 #[.string (aa t.name),.int .i64 (t.at_:Nat),.slice ga (Tm.Its.len t.items) capb]);have HVS:=hid (HS.out.bel.size);obtain⟨nme,hnme⟩:∃nme,nme=t.name:=⟨_,rfl⟩;rw[← hnme]at c0 hnl z1 z2 S1 HBX;have HNM:=hid hnme;clear g1 g2 g3 g4 hrow hTlen hdr hmem hft hnme h7;go_wp2_with fail;refine(zG V _ _ _ S1.out ?_).mono ?_
   ·have h1:=HTL.out;simp only[aI,aT,aH,Z7,Z6,Y3,ByteArray.size_append,aq,aN,List.size_toArray];omega
   rintro e w2 ⟨⟨rn2,rfl⟩,hs2,hk2⟩;have S2:=hid hs2;have hbx:=hk2 _ _ _ _ (by have:=HVS.out;have hb:=S1.out.bd.lt;simp only[World.size_alloc]at hb;intro e;have hb2:=HS.out.bd.lt;omega) (by decide) HBX.out;have d2:=hbx.cell0 2 (by simp);simp only[Z0,Z1]at d2;clear hs2 hk2 hbx;go_wp2_with fail;have hbl:(T++({data:= #[115,116,114,117,99,116,32]}++aa nme++{data:= #[32,123,10]}:ByteArray).data.toList++Tm.prI 1 t.items).length≤1000000:=by
    have h1:=HTL.out;have h2:=congrArg List.length HNM.out;have h7:Tm.cS.length=6:=rfl;simp only[aI,aT,aH,Z7,Z6,Y3];omega
   have HWR:=hid (Db t.items HFT.out.2 V w2 rb 1 capb ga bs _ HOB.out HEB.out HLV.out HRB.out S2.out (by omega) hbl);refine HWR.out.mono ?_;rintro e w3 ⟨rfl,hs3⟩;have S3:=hid hs3;clear hs3 HWR d2;have HBL:=hid hbl;clear hbl;go_wp2_with fail;refine(aC V _ _ _ S3.out ?_).mono ?_
   ·have h1:=HBL.out;rw[show({data:= #[125,10]}:ByteArray).size=2 from rfl];omega
   rintro e w4 ⟨⟨rn4,rfl⟩,hs4⟩;have S4:=hid hs4;clear hs4;go_wp2_with fail;go_roundw
   case rel=>exact⟨i+1,_,by go_num,by omega,hid (by rw[HNX.out,← HT.out,HNM.out];simp[Tm.cY,Tm.prT,Tm.cS,aI,aT,aH]),S4⟩
   case measure=>simp[intOf];omega
  ·obtain rfl:i=n:=by omega
   have q1:decide ((i:Int) < (i:Int))=false:=by simp
   have q2:decide (i < i)=false:=by simp
   have hdr:tys.drop i=[]:=by rw[HN.out];exact List.drop_length
   have HFT:=hid (show T=full by rw[← HT.out,hdr];simp[Tm.cY]);clear hdr;go_wp2_with fail;refine(Fu V.heap.size V.heap.size T wr HS.out.bd HS.out.bel.size).mono ?_;rintro e w2 ⟨rfl,hb⟩;have HB:=hid (HS.out.bel.trans hb);clear hb;go_wp2_with fail;go_ret;rw[← HFT.out];exact⟨rfl,HB.out⟩
end
end Go.Proofs.YtlomecfhobehnaaGreatDoor
