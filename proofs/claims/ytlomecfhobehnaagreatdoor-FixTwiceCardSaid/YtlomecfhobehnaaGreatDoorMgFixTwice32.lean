import Derived.Test.YtlomecfhobehnaaGreatDoorMgFixTwice0
import Derived.Test.YtlomecfhobehnaaGreatDoorMgFixTwice31
set_option linter.unusedVariables false
set_option linter.unusedSimpArgs false
namespace Go.Proofs.YtlomecfhobehnaaGreatDoor
open Lib (hid)
section
set_option maxRecDepth 100000
open Go Go.RowKit
open Rd
open Ly
namespace Ly
def Nds.tot:Nds→Nat
 | .nil=>0
 | .cons _ _ _ _ _ tx ks r=>tx.length+8+ks.tot+r.tot
def Nds.ok:Nds→Prop
 | .nil=>True
 | .cons _ _ _ _ v _ ks r=>Ex.InR v∧ks.ok∧r.ok
def Nd.tot(d:Nd):Nat:=d.text.length+8+d.kids.tot
def Nd.ok(d:Nd):Prop:=Ex.InR d.val∧d.kids.ok
def Nds.drop:Nat→Nds→Nds
 |0,l=>l
 |_+1,.nil=> .nil
 |n+1,.cons _ _ _ _ _ _ _ r=>r.drop n
theorem Nds.cD:∀l:Nds,l.drop l.len= .nil
 | .nil=>rfl
 | .cons _ _ _ _ _ _ _ r=>Nds.cD r
theorem Nds.bS:∀(l:Nds) (i:Nat),i < l.len→∃(d:Nd) (r:Nds),l.drop i=d.put r∧l.drop (i+1)=r
 | .nil,i,h=>by simp[Nds.len]at h
 | .cons a b c d e f g r,0,_=>⟨⟨a,b,c,d,e,f,g⟩,r,rfl,by cases r <;> rfl⟩
 | .cons _ _ _ _ _ _ _ r,i+1,h=>Nds.bS r i (by simp[Nds.len]at h;omega)
theorem Nds.ib:∀(l:Nds) (i:Nat),(l.drop i).tot≤l.tot
 |l,0=>by cases l <;> exact Z5 _
 | .nil,i+1=>Z5 _
 | .cons _ _ _ _ _ _ _ r,i+1=>by have:=Nds.ib r i;simp only[Nds.drop,Nds.tot];omega
theorem Nds.nW:∀(l:Nds) (i:Nat),l.ok→(l.drop i).ok
 |l,0,h=>by cases l <;> exact h
 | .nil,i+1,h=>h
 | .cons _ _ _ _ _ _ _ r,i+1,h=>Nds.nW r i h.2.2
theorem eN(d:Nd)(r:Nds):(d.put r).tot=d.tot+r.tot:=rfl
theorem pD{d:Nd}{r:Nds}(h:(d.put r).ok):d.ok∧r.ok:=⟨⟨h.1,h.2.1⟩,h.2.2⟩
theorem Et(w:Tm.Wd)(v:Int):(oU w v).length=bj w:=by unfold oU lq;simp
end Ly
theorem FK(w:Tm.Wd):bj w≤8:=by
 cases hk:Tm.kindOf w with
 |none=>unfold bj;rw[hk];exact Nat.zero_le _
 |some k=>have:=(lx (show(Tm.kindOf w).isSome=true by rw[hk];rfl)).1;omega
namespace Ly
def eV(W:Wri):Prop:=∀nm ks u,W nm ks=some u→u.length≤ks.tot
theorem nX{W:Wri}(hW:eV W){h:Tm.Hd}{d:Nd}{u:Tm.Wd}(ho:ba W h d=some u):u.length≤d.tot:=by
 unfold ba at ho
 unfold Nd.tot
 split at ho
 ·cases ho
 ·cases hk:h.k with
  |scalar w=>
   rw[hk]at ho
   simp only[]at ho
   split at ho
   ·cases ho
    rw[Et]
    have:=FK w
    omega
   ·cases ho
  |bytes=>rw[hk]at ho;cases ho;omega
  |struct t=>rw[hk]at ho;have:=hW _ _ _ ho;omega
theorem s6{f:Nd→Option Tm.Wd}(hf:∀d u,f d=some u→u.length≤d.tot):∀(ks:Nds) (u:Tm.Wd),cG f ks=some u→u.length≤ks.tot
 | .nil,u,h=>by cases h;exact Nat.zero_le _
 | .cons a b c d e g k r,u,h=>by
  unfold cG at h
  cases h1:f ⟨a,b,c,d,e,g,k⟩with
  |none=>rw[h1]at h;cases h
  |some x=>
   rw[h1]at h
   simp only[Option.bind_some]at h
   cases h2:cG f r with
   |none=>rw[h2]at h;cases h
   |some y=>
    rw[h2]at h
    cases h
    have g1:=hf _ _ h1;have g2:=s6 hf r y h2
    simp only[Nd.tot]at g1
    simp only[Z7,Nds.tot]
    omega
theorem CT{W:Wri}(hW:eV W){h:Tm.Hd}{d:Nd}{u:Tm.Wd}(ho:bc W h d=some u):u.length≤d.tot:=by
 unfold bc at ho
 split at ho
 ·split at ho
  ·cases ho
  ·have:=s6 (fun d u h=>nX hW h) _ _ ho
   unfold Nd.tot
   omega
 ·exact nX hW ho
def kg(W:Wri)(body:Tm.Its)(e:Int)(k:Nds):Option Tm.Wd:=if e=0 then(match k with| .nil=>some []| .cons _ _ _ _ _ _ _ _=>none)else aG W body k
theorem ca(W:Wri)(a0:Nat)(c0:Ex.X)(body l:Tm.Its)(nm:Tm.Wd)(kd at_ sz:Nat)(e:Int)(tx:Tm.Wd)(k r:Nds):aG W (.when a0 c0 body l) (.cons nm kd at_ sz e tx k r)=if nm≠[]∨kd≠4 then none else(kg W body e k).bind fun u=>(aG W l r).map (u++ ·):=by cases k <;> rfl
theorem jP{W:Wri}(hW:eV W):∀(l:Tm.Its) (ks:Nds) (u:Tm.Wd),aG W l ks=some u→u.length≤ks.tot
 | .nil,.nil,u,h=>by cases h;exact Nat.zero_le _
 | .nil,.cons ..,u,h=>by cases h
 | .cons h l,.nil,u,e=>by cases e
 | .cons h l,.cons a b c d e g k r,u,ho=>by
  unfold aG at ho
  cases h1:bc W h ⟨a,b,c,d,e,g,k⟩with
  |none=>rw[h1]at ho;cases ho
  |some x=>
   rw[h1]at ho
   simp only[Option.bind_some]at ho
   cases h2:aG W l r with
   |none=>rw[h2]at ho;cases ho
   |some y=>
    rw[h2]at ho
    cases ho
    have g1:=CT hW h1;have g2:=jP hW l r y h2
    simp only[Nd.tot]at g1
    simp only[Z7,Nds.tot]
    omega
 | .when _ _ _ _,.nil,u,e=>by cases e
 | .when _ _ body l,.cons a b c d e g k r,u,ho=>by
  rw[ca]at ho
  split at ho
  ·cases ho
  ·cases h1:kg W body e k with
   |none=>rw[h1]at ho;cases ho
   |some x=>
    rw[h1]at ho
    simp only[Option.bind_some]at ho
    cases h2:aG W l r with
    |none=>rw[h2]at ho;cases ho
    |some y=>
     rw[h2]at ho
     cases ho
     have g2:=jP hW l r y h2
     have g1:x.length≤k.tot:=by
      unfold kg at h1
      split at h1
      ·split at h1
       ·cases h1;exact Nat.zero_le _
       ·cases h1
      ·exact jP hW body k x h1
     simp only[Z7,Nds.tot]
     omega
theorem mG:∀l:List Tm.Ty,eV (wrS l)
 |[],nm,ks,u,h=>by cases h
 |t::r,nm,ks,u,h=>by
  unfold wrS at h
  split at h
  ·exact jP (mG r) _ _ _ h
  ·exact mG r nm ks u h
theorem pE{W:Wri}:∀(l:Tm.Its) (ks:Nds) (u:Tm.Wd),aG W l ks=some u→l.len=ks.len
 | .nil,.nil,u,h=>rfl
 | .nil,.cons ..,u,h=>by cases h
 | .cons h l,.nil,u,e=>by cases e
 | .cons h l,.cons a b c d e g k r,u,ho=>by
  unfold aG at ho
  cases h1:bc W h ⟨a,b,c,d,e,g,k⟩with
  |none=>rw[h1]at ho;cases ho
  |some x=>
   rw[h1]at ho
   simp only[Option.bind_some]at ho
   cases h2:aG W l r with
   |none=>rw[h2]at ho;cases ho
   |some y=>simp only[Tm.Its.len,Nds.len];rw[pE l r y h2]
 | .when _ _ _ _,.nil,u,e=>by cases e
 | .when _ _ body l,.cons a b c d e g k r,u,ho=>by
  rw[ca]at ho
  split at ho
  ·cases ho
  ·cases h1:kg W body e k with
   |none=>rw[h1]at ho;cases ho
   |some x=>
    rw[h1]at ho
    simp only[Option.bind_some]at ho
    cases h2:aG W l r with
    |none=>rw[h2]at ho;cases ho
    |some y=>simp only[Tm.Its.len,Nds.len];rw[pE l r y h2]
end Ly
theorem ef(w:World):Calls Tryz.prog 66 #[.bool false] w fun e w'=>e= .returned (.tuple #[])∧w=w':=by
 go_enter Tryz.func66,Tryz.ntmps66
 go_wp2_with fail
 refine bodyPost_end (results_none rfl _ _ _) rfl ?_
 exact⟨rfl,rfl⟩
end
section
set_option maxRecDepth 100000
set_option maxHeartbeats 1000000
open Go Go.RowKit
open Rd
open Ly
def cW(w:World)(u:Tm.Wd)(e:Ending)(w':World):Prop:=Below w.heap.size w w'∧e= .returned (.string (aa u))
namespace Ly
theorem ic{W:Wri}{h:Tm.Hd}{d:Nd}{u:Tm.Wd}(ho:ba W h d=some u):d.name=h.name∧d.kind=kNo h.k∧(match h.k with
 | .scalar w=>(if dq w d.val then some (oU w d.val)else none)
 | .bytes=>some d.text
 | .struct t=>W t d.kids)=some u:=by
 unfold ba at ho
 split at ho
 ·cases ho
 ·rename_i hno
  rw[not_or]at hno
  exact⟨Classical.not_not.1 hno.1,Classical.not_not.1 hno.2,ho⟩
end Ly
theorem xU(fv sv cv:Value)(gn on g o:Nat)(W:Wri)(h:Tm.Hd)(d:Nd)(u:Tm.Wd)(w:World)(hk:h.k= .bytes)(ho:ba W h d=some u)(hr:ae w g o 70 (Tm.ag h cv))(hn:ae w gn on 28 (ad d.name d.kind d.at_ d.size d.val d.text sv)):
  Calls Tryz.prog 33 #[fv,.pointer (some ⟨g,o,none⟩),.pointer (some ⟨gn,on,none⟩)] w (cW w u):=by
 obtain⟨hnm,hkd,hu⟩:=ic ho
 rw[hk]at hkd hu
 have hkd:d.kind=2:=hkd
 have hu2:d.text=u:=by injection hu
 subst hu2
 clear ho hu
 have n0:=hn.cell 0 (by simp[ad]);have n1:=hn.cell 1 (by simp[ad])
 have k0:=hr.cell 0 (by simp[Tm.aj]);have k2:=hr.cell 2 (by simp[Tm.aj])
 simp only[ad,Z0,Z1,Y2]at n0 n1
 simp only[Tm.ag,hk,Tm.aH,Z0,Z1,Y2]at k0 k2
 have HR:=hid hr;have HN:=hid hn
 rw[hnm]at n0
 rw[hkd]at n1
 clear hr hn hnm hkd
 go_enter Tryz.func33,Tryz.ntmps33
 go_wp2_with fail
 go_still_tail 20,(by kernel_rfl)
 change wpList _ _ _ _ _ w.drew
 go_wp2_with fail
 refine(ef _).mono ?_
 rintro e w1 ⟨rfl,rfl⟩
 clear n0 n1 k2
 obtain⟨V,hV⟩:∃V,V=w.drew:=⟨_,rfl⟩
 rw[← hV]
 have hbV:Below w.heap.size w V:=by rw[hV];exact(Y4 _ _).drew
 have hrV:=HR.out.below hbV HR.out.lt
 have hnV:=HN.out.below hbV HN.out.lt
 have k0:=hrV.cell 0 (by simp[Tm.aj]);have n5:=hnV.cell 5 (by simp[ad])
 simp only[Tm.ag,hk,Tm.aH,ad,Z0,Z1,Y2]at k0 n5
 have HBV:=hid hbV
 clear hV hbV hrV hnV
 go_wp2_with fail
 go_ret
 exact⟨HBV.out,rfl⟩
theorem CU{wd:Tm.Wd}{v:Int}(h:dq wd v=true):(eG wd=true→(gU (eQ v) (bj wd)==v)=true)∧(eG wd=false→(decide (0≤v)&&(((iU (eQ v) (bj wd):Nat):Int)==((eQ v:Nat):Int)))=true):=by
 unfold dq at h
 constructor
 ·intro hs
  rw[hs,if_pos rfl]at h
  rw[beq_iff_eq];exact of_decide_eq_true h
 ·intro hs
  rw[hs,if_neg (by decide)]at h
  rw[Bool.and_eq_true]at h⊢
  refine⟨h.1,?_⟩
  rw[beq_iff_eq]
  have:=of_decide_eq_true h.2
  omega
theorem vg(fv sv cv:Value)(gn on g o:Nat)(W:Wri)(h:Tm.Hd)(wd:Tm.Wd)(d:Nd)(u:Tm.Wd)(w:World)(hk:h.k= .scalar wd)(hkw:(Tm.kindOf wd).isSome=true)(hv:Ex.InR d.val)(ho:ba W h d=some u)(hr:ae w g o 70 (Tm.ag h cv))(hn:ae w gn on 28 (ad d.name d.kind d.at_ d.size d.val d.text sv)):
  Calls Tryz.prog 33 #[fv,.pointer (some ⟨g,o,none⟩),.pointer (some ⟨gn,on,none⟩)] w (cW w u):=by
 obtain⟨hnm,hkd,hu⟩:=ic ho
 rw[hk]at hkd hu
 have hkd:d.kind=1:=hkd
 have hu1:(if dq wd d.val=true then some (oU wd d.val)else none)=some u:=hu
 have hfit:dq wd d.val=true:=by
  cases hf:dq wd d.val with
  |true=>rfl
  |false=>rw[hf]at hu1;cases hu1
 rw[if_pos hfit]at hu1
 have hu2:oU wd d.val=u:=by injection hu1
 obtain⟨kv1,kv2,kv3⟩:=oX hkw
 obtain⟨wo1,wo2,wo3⟩:=lx hkw
 obtain⟨fy1,fy2⟩:=CU hfit
 have HU:=hid hu2
 clear ho hu hu1 hu2 hfit
 have n0:=hn.cell 0 (by simp[ad]);have n1:=hn.cell 1 (by simp[ad])
 have k0:=hr.cell 0 (by simp[Tm.aj]);have k2:=hr.cell 2 (by simp[Tm.aj])
 simp only[ad,Z0,Z1,Y2]at n0 n1
 simp only[Tm.ag,hk,Tm.aH,Z0,Z1,Y2]at k0 k2
 have HR:=hid hr;have HN:=hid hn
 rw[hnm]at n0
 rw[hkd]at n1
 clear hr hn hnm hkd
 go_enter Tryz.func33,Tryz.ntmps33
 go_wp2_with fail
 go_still_tail 20,(by kernel_rfl)
 change wpList _ _ _ _ _ w.drew
 go_wp2_with fail
 refine(ef _).mono ?_
 rintro e w1 ⟨rfl,rfl⟩
 clear n0 n1 k2
 obtain⟨V,hV⟩:∃V,V=w.drew:=⟨_,rfl⟩
 rw[← hV]
 have hbV:Below w.heap.size w V:=by rw[hV];exact(Y4 _ _).drew
 have hrV:=HR.out.below hbV HR.out.lt
 have hnV:=HN.out.below hbV HN.out.lt
 have k0:=hrV.cell 0 (by simp[Tm.aj]);have k4:=hrV.cell 4 (by simp[Tm.aj]);have k5:=hrV.cell 5 (by simp[Tm.aj]);have k6:=hrV.cell 6 (by simp[Tm.aj]);have n4:=hnV.cell 4 (by simp[ad])
 simp only[Tm.ag,hk,Tm.aH,Tm.bt,ad,Z0,Z1,Y2]at k0 k4 k5 k6 n4
 rw[kv1]at k4
 rw[kv2]at k5
 rw[kv3]at k6
 have HFT:=hid (fun W=>ri d.val (bj wd) W hv.1 hv.2 (by omega) (by omega));have HFF:=hid (fun W=>oZ d.val (bj wd) W hv.1 hv.2 (by omega) (by omega))
 have HPUT:=hid (fun W=>Eb (eQ d.val) (bj wd) (fK wd) W wo1 wo2)
 have HBV:=hid hbV;have HRV:=hid hrV;have HNV:=hid hnV
 have wu:IntKind.u64.wrap d.val=((eQ d.val:Nat):Int):=mo d.val
 obtain⟨dv,hdv⟩:∃dv,dv=d.val:=⟨_,rfl⟩
 rw[← hdv]at n4 HFT HFF HPUT fy1 fy2 wu
 have HDV:=hid hdv
 clear hV hbV hrV hnV hv hdv wo1 wo2 wo3
 have hFIT:∀W,Calls Tryz.prog 39 #[.int .i64 dv,.int .i64 (bj wd:Nat),.bool (eG wd)] W fun e w'=>e= .returned (.bool true)∧W=w':=by
  intro W
  cases hs:eG wd with
  |true=>have:=HFT.out W;rw[fy1 hs]at this;exact this
  |false=>have:=HFF.out W;rw[fy2 hs]at this;exact this
 have HFIT:=hid hFIT
 clear hFIT fy1 fy2
 go_wp2_with fail
 go_quiet (first|(go_at_call 39;with_reducible exact Calls.quiet_of_same (sh (HFIT.out _)))|(go_at_call 66;with_reducible exact Calls.quiet_of_same (sh (ef _))))
 obtain⟨V2,hV2⟩:∃V2,V2=V.drewN nq:=⟨_,rfl⟩
 rw[← hV2]
 have hb2:Below w.heap.size w V2:=by rw[hV2];exact fc HBV.out _
 have hr2:ae V2 g o 70 (Tm.ag h cv):=by rw[hV2];exact HRV.out.drewN _
 have hn2:ae V2 gn on 28 (ad d.name d.kind d.at_ d.size d.val d.text sv):=by rw[hV2];exact HNV.out.drewN _
 have hSS:∀W,Below w.heap.size w W→ae W g o 70 (Tm.ag h cv)→ae W gn on 28 (ad d.name d.kind d.at_ d.size d.val d.text sv)→W.cell? ⟨gn,on+4,none⟩=some (.int .i64 dv)∧W.cell? ⟨g,o+4,none⟩=some (.int .i64 (bj wd:Nat))∧W.cell? ⟨g,o+5,none⟩=some (.int .i64 (fK wd:Nat))∧Hid (Below w.heap.size w W∧ae W g o 70 (Tm.ag h cv)∧ae W gn on 28 (ad d.name d.kind d.at_ d.size d.val d.text sv)):=by
  intro W hb hr hn
  have k4:=hr.cell 4 (by simp[Tm.aj]);have k5:=hr.cell 5 (by simp[Tm.aj]);have n4:=hn.cell 4 (by simp[ad])
  simp only[Tm.ag,hk,Tm.bt,ad,Z0,Z1,Y2]at k4 k5 n4
  rw[kv1]at k4
  rw[kv2]at k5
  rw[← HDV.out]at n4
  exact⟨n4,k4,k5,hid ⟨hb,hr,hn⟩⟩
 have hS0:=hSS V2 hb2 hr2 hn2
 have hS1:=hSS V2.drew hb2.drew hr2.drew hn2.drew
 have HSS:=hid hSS
 clear hV2 hb2 hr2 hn2 hSS k0 k4 k5 k6 n4
 have k4:=hS0.2.1;have k5:=hS0.2.2.1;have n4:=hS0.1
 go_wp2_with fail
 go_region_held3 (fun W=>W.cell? ⟨gn,on+4,none⟩=some (.int .i64 dv)∧W.cell? ⟨g,o+4,none⟩=some (.int .i64 (bj wd:Nat))∧W.cell? ⟨g,o+5,none⟩=some (.int .i64 (fK wd:Nat))∧Hid (Below w.heap.size w W∧ae W g o 70 (Tm.ag h cv)∧ae W gn on 28 (ad d.name d.kind d.at_ d.size d.val d.text sv)))
  (first
   |exact hS1
   |assumption)
  (first
   |(go_at_call 67;(with_reducible refine(HPUT.out _).mono ?_);(rintro e w6 ⟨rfl,hb6⟩);(have hS6:=HSS.out w6 (hS1.2.2.2.out.1.trans (hb6.mono hS1.2.2.2.out.1.size)) (hS1.2.2.2.out.2.1.below hb6 hS1.2.2.2.out.2.1.lt) (hS1.2.2.2.out.2.2.below hb6 hS1.2.2.2.out.2.2.lt))))
 all_goals
  go_wp2_with fail
  go_ret
  refine⟨hS6.2.2.2.out.1,?_⟩
  rw[← HU.out]
  unfold oU
  rw[← HDV.out]
  rfl
def kh(A:List Tm.Ty)(W:Wri)(l:Tm.Its):Prop:=∀(U w:World) (rb fb cap gcap B:Nat) (ga gk:Option Addr) (bs vs:List Value) (ks:Nds) (b1:List Nat) (u:Tm.Wd),Below U.heap.size U w→bN U w rb fb A→an U (rb+1) 70 13 ga l.len cap bs→Tm.bo U rb l bs→
 an w B 28 7 gk ks.len gcap vs→aW w B ks b1 vs→ks.ok→ks.tot≤1000000→aG W l ks=some u→
 Calls Tryz.prog 68 #[.map (some fb),.slice ga l.len cap,.slice gk ks.len gcap] w (cW w u)
def s7(A:List Tm.Ty)(W:Wri)(nm:Tm.Wd):Prop:=∃t∈A,t.name=nm∧t.name.length≤100000∧∃W',(∀ks,W t.name ks=aG W' t.items ks)∧kh A W' t.items
theorem nB(A:List Tm.Ty)(W W':Wri)(t:Tm.Ty)(ht:t∈A)(hW:∀ks,W t.name ks=aG W' t.items ks)(hI:kh A W' t.items)(htl:t.name.length≤100000)(cv:Value)(gn on g o:Nat)(h:Tm.Hd)(d:Nd)(u:Tm.Wd)(U w:World)(rb fb B gcap:Nat)(gk:Option Addr)(vs:List Value)(b1:List Nat)
  (hU:Below U.heap.size U w)(hfm:bN U w rb fb A)(hk:h.k= .struct t.name)(ho:ba W h d=some u)(hr:ae w g o 70 (Tm.ag h cv))(hn:ae w gn on 28 (ad d.name d.kind d.at_ d.size d.val d.text (.slice gk d.kids.len gcap)))
  (hok:d.kids.ok)(htot:d.kids.tot≤1000000)(hkO:an w B 28 7 gk d.kids.len gcap vs)(hkE:aW w B d.kids b1 vs):
  Calls Tryz.prog 33 #[.map (some fb),.pointer (some ⟨g,o,none⟩),.pointer (some ⟨gn,on,none⟩)] w (cW w u):=by
 obtain⟨hnm,hkd,hu⟩:=ic ho
 rw[hk]at hkd hu
 have hkd:d.kind=3:=hkd
 have hu2:aG W' t.items d.kids=some u:=(hW d.kids).symm.trans hu
 obtain⟨ga,cap,bs,hoi,hen,hlk⟩:=hfm.look ht htl
 have hC:=fun X (hX:Below w.heap.size w X)=>hI U X rb fb cap gcap B ga gk bs vs d.kids b1 u (hU.trans (hX.mono hU.size)) (hfm.al (hX.block _ hfm.lt)) hoi hen (hkO.below hX (Z5 _)) (hkE.al _ _ _ (fun b hb=>hX.block b (hkE.mem _ _ _ b hb).2)) hok htot hu2
 have HC:=hid hC
 have hlk0:∀j,(Instr.lookup 59 (.map (some fb)) (.string (aa t.name)) false).run Tryz.prog (w.drewN j)= .ok (.slice ga t.items.len cap) (w.drewN j):=fun j=>hlk _ rfl
 have HLK:=hid hlk
 have HFL:=hid hfm.lt
 clear ho hu hu2 hfm hC hlk hlk0 hoi hen hkO hkE hU hW
 have n0:=hn.cell 0 (by simp[ad]);have n1:=hn.cell 1 (by simp[ad])
 have k0:=hr.cell 0 (by simp[Tm.aj]);have k2:=hr.cell 2 (by simp[Tm.aj])
 simp only[ad,Z0,Z1,Y2]at n0 n1
 simp only[Tm.ag,hk,Tm.aH,Z0,Z1,Y2]at k0 k2
 have HR:=hid hr;have HN:=hid hn
 rw[hnm]at n0
 rw[hkd]at n1
 clear hr hn hnm hkd
 go_enter Tryz.func33,Tryz.ntmps33
 go_wp2_with fail
 go_still_tail 20,(by kernel_rfl)
 change wpList _ _ _ _ _ w.drew
 go_wp2_with fail
 refine(ef _).mono ?_
 rintro e w1 ⟨rfl,rfl⟩
 clear n0 n1 k2
 obtain⟨V,hV⟩:∃V,V=w.drew:=⟨_,rfl⟩
 rw[← hV]
 have hbV:Below w.heap.size w V:=by rw[hV];exact(Y4 _ _).drew
 have hrV:=HR.out.below hbV HR.out.lt
 have hnV:=HN.out.below hbV HN.out.lt
 have k0:=hrV.cell 0 (by simp[Tm.aj]);have k3:=hrV.cell 3 (by simp[Tm.aj]);have n6:=hnV.cell 6 (by simp[ad])
 simp only[Tm.ag,hk,Tm.aH,Tm.bp,ad,Z0,Z1,Y2]at k0 k3 n6
 have hfl:=HFL.out
 have hSS:∀W,Below V.heap.size V W→W.cell? ⟨g,o+3,none⟩=some (.string (aa t.name))∧(Instr.lookup 59 (.map (some fb)) (.string (aa t.name)) false).run Tryz.prog W= .ok (.slice ga t.items.len cap) W∧W.cell? ⟨gn,on+6,none⟩=some (.slice gk d.kids.len gcap)∧Hid (Below V.heap.size V W):=by
  intro W hb
  exact⟨(hb.cell (World.block_lt_of_cell? _ _ k3)).trans k3,HLK.out W ((hb.block _ (Nat.lt_of_lt_of_le hfl hbV.size)).trans (hbV.block _ hfl)),(hb.cell (World.block_lt_of_cell? _ _ n6)).trans n6,hid hb⟩
 have hS1:=hSS V.drew (Y4 _ _).drew
 have HSS:=hid hSS
 have HBV:=hid hbV
 have HC2:=hid (fun W (hW:Below V.heap.size V W)=>HC.out W (hbV.trans (hW.mono hbV.size)))
 clear hV hbV hrV hnV hSS k3 n6 hfl
 go_wp2_with fail
 go_region_held3 (fun W=>W.cell? ⟨g,o+3,none⟩=some (.string (aa t.name))∧(Instr.lookup 59 (.map (some fb)) (.string (aa t.name)) false).run Tryz.prog W= .ok (.slice ga t.items.len cap) W∧W.cell? ⟨gn,on+6,none⟩=some (.slice gk d.kids.len gcap)∧Hid (Below V.heap.size V W))
  (first
   |exact hS1
   |assumption)
  (first
   |(go_at_call 68;(with_reducible refine(HC2.out _ ?_).mono ?_);(next=>exact(Y4 _ _).drew);(rintro e w6 ⟨hb6,rfl⟩);(have hS6:=HSS.out w6 (Below.trans (Y4 V.heap.size V).drew hb6))))
 all_goals
  go_wp2_with fail
  go_ret
  exact⟨HBV.out.trans (hS6.2.2.2.out.mono HBV.out.size),rfl⟩
theorem A7(A:List Tm.Ty)(W:Wri)(body:Tm.Its)(hI:kh A W body)(cv:Value)(gn on g o ai:Nat)(d:Nd)(u:Tm.Wd)(U w:World)(rb fb B gcap capi:Nat)(gi gk:Option Addr)(bs vs:List Value)(b1:List Nat)
  (hU:Below U.heap.size U w)(hfm:bN U w rb fb A)(hnm:d.name=[])(hkd:d.kind=4)(hu:kg W body d.val d.kids=some u)(hoi:an U (rb+1) 70 13 gi body.len capi bs)(hen:Tm.bo U rb body bs)(hr:ae w g o 70 (Tm.au ai cv (.slice gi body.len capi)))(hn:ae w gn on 28 (ad d.name d.kind d.at_ d.size d.val d.text (.slice gk d.kids.len gcap)))
  (hok:d.kids.ok)(htot:d.kids.tot≤1000000)(hkO:an w B 28 7 gk d.kids.len gcap vs)(hkE:aW w B d.kids b1 vs):
  Calls Tryz.prog 33 #[.map (some fb),.pointer (some ⟨g,o,none⟩),.pointer (some ⟨gn,on,none⟩)] w (cW w u):=by
 have hC:=fun X (hX:Below w.heap.size w X) (hv:aG W body d.kids=some u)=>hI U X rb fb capi gcap B gi gk bs vs d.kids b1 u (hU.trans (hX.mono hU.size)) (hfm.al (hX.block _ hfm.lt)) hoi hen (hkO.below hX (Z5 _)) (hkE.al _ _ _ (fun b hb=>hX.block b (hkE.mem _ _ _ b hb).2)) hok htot hv
 have HC:=hid hC
 obtain⟨dv,hdv⟩:∃dv,dv=d.val:=⟨_,rfl⟩
 have HDV:=hid hdv
 have HU:=hid hu
 clear hC hoi hen hkO hkE hU hfm hu hdv
 have n0:=hn.cell 0 (by simp[ad]);have n1:=hn.cell 1 (by simp[ad])
 have k0:=hr.cell 0 (by simp[Tm.aZ]);have k2:=hr.cell 2 (by simp[Tm.aZ])
 simp only[ad,Z0,Z1,Y2]at n0 n1
 simp only[Tm.au,Z0,Z1,Y2]at k0 k2
 have HR:=hid hr;have HN:=hid hn
 rw[hnm]at n0
 rw[hkd]at n1
 clear hr hn hnm hkd
 go_enter Tryz.func33,Tryz.ntmps33
 go_wp2_with fail
 go_still_tail 20,(by kernel_rfl)
 change wpList _ _ _ _ _ w.drew
 go_wp2_with fail
 refine(ef _).mono ?_
 rintro e w1 ⟨rfl,rfl⟩
 clear n0 n1 k2
 obtain⟨V,hV⟩:∃V,V=w.drew:=⟨_,rfl⟩
 rw[← hV]
 have hbV:Below w.heap.size w V:=by rw[hV];exact(Y4 _ _).drew
 have hrV:=HR.out.below hbV HR.out.lt
 have hnV:=HN.out.below hbV HN.out.lt
 have k0:=hrV.cell 0 (by simp[Tm.aZ]);have k12:=hrV.cell 12 (by simp[Tm.aZ]);have n4:=hnV.cell 4 (by simp[ad]);have n6:=hnV.cell 6 (by simp[ad])
 simp only[Tm.au,ad,Z0,Z1,Y2]at k0 k12 n4 n6
 rw[← HDV.out]at n4
 have HBV:=hid hbV
 by_cases hv0:dv=0
 ·have hk0:d.kids= .nil∧u=[]:=by
   have:=HU.out
   unfold kg at this
   rw[← HDV.out,if_pos hv0]at this
   cases hk:d.kids with
   |nil=>rw[hk]at this;injection this with h;exact⟨rfl,h.symm⟩
   |cons=>rw[hk]at this;cases this
  obtain⟨hk1,rfl⟩:=hk0
  rw[hk1]at n6
  subst hv0
  have n6':V.cell? ⟨gn,on+6,none⟩=some (.slice gk 0 gcap):=n6
  clear hV hbV hrV hnV n6 hk1
  go_wp2_with fail
  refine(ef _).mono ?_
  rintro e w2 ⟨rfl,rfl⟩
  go_wp2_with fail
  go_ret
  exact⟨HBV.out,rfl⟩
 ·have hvd:decide (dv=0)=false:=Y9 hv0
  have hvb:(dv==0)=false:=Z8.2 hv0
  have hv1:aG W body d.kids=some u:=by
   have:=HU.out
   unfold kg at this
   rw[← HDV.out,if_neg hv0]at this
   exact this
  have hSS:∀W,Below V.heap.size V W→W.cell? ⟨g,o+12,none⟩=some (.slice gi body.len capi)∧W.cell? ⟨gn,on+6,none⟩=some (.slice gk d.kids.len gcap)∧Hid (Below V.heap.size V W):=by
   intro W hb
   exact⟨(hb.cell (World.block_lt_of_cell? _ _ k12)).trans k12,(hb.cell (World.block_lt_of_cell? _ _ n6)).trans n6,hid hb⟩
  have hS1:=hSS V.drew (Y4 _ _).drew
  have HSS:=hid hSS
  have HC2:=hid (fun W (hW:Below V.heap.size V W)=>HC.out W (hbV.trans (hW.mono hbV.size)) hv1)
  clear hV hbV hrV hnV hSS k12 n6 hv0 hv1
  go_wp2_with fail
  go_region_held3 (fun W=>W.cell? ⟨g,o+12,none⟩=some (.slice gi body.len capi)∧W.cell? ⟨gn,on+6,none⟩=some (.slice gk d.kids.len gcap)∧Hid (Below V.heap.size V W))
   (first
    |exact hS1
    |assumption)
   (first
    |(go_at_call 68;(with_reducible refine(HC2.out _ ?_).mono ?_);(next=>exact(Y4 _ _).drew);(rintro e w6 ⟨hb6,rfl⟩);(have hS6:=HSS.out w6 (Below.trans (Y4 V.heap.size V).drew hb6))))
  all_goals
   go_wp2_with fail
   go_ret
   exact⟨HBV.out.trans (hS6.2.2.out.mono HBV.out.size),rfl⟩
end
section
set_option maxRecDepth 100000
set_option maxHeartbeats 2000000
open Go Go.RowKit
open Rd
open Ly
namespace Ly
theorem aW.at_{w:World}{B:Nat}:∀(i:Nat) (l:Nds) (bl:List Nat) (vs:List Value),aW w B l bl vs→∃us b2,aW w B (l.drop i) b2 us∧us=vs.drop (i * 7)
 |0,l,bl,vs,h=>⟨vs,bl,by cases l <;> exact h,by simp⟩
 |i+1,.nil,bl,vs,h=>⟨[],[],⟨rfl,rfl⟩,by rw[h.1];simp⟩
 |i+1,.cons nm kd a sz v tx ks r,bl,vs,h=>by
  obtain⟨ga,cap,bs,us,b1,b2,rfl,h1,h3,rfl,h5⟩:=h
  obtain⟨ys,b3,g1,g2⟩:=aW.at_ i r b2 us h5
  refine⟨ys,b3,g1,?_⟩
  rw[g2,show(i+1) * 7=(ad nm kd a sz v tx (.slice ga ks.len cap)).length+i * 7 by show _=7+i * 7;omega,Tm.lB]
theorem aW.nd{w:World}{B i cap:Nat}{l r:Nds}{bl:List Nat}{vs:List Value}{x:Addr}{d:Nd}(ho:an w B 28 7 (some x) l.len cap vs)(he:aW w B l bl vs)(hd:l.drop i=d.put r):
  ∃ga cap2 bs b1,ae w x.block (i * 7) 28 (ad d.name d.kind d.at_ d.size d.val d.text (.slice ga d.kids.len cap2))∧an w B 28 7 ga d.kids.len cap2 bs∧aW w B d.kids b1 bs:=by
 obtain⟨us,b2,h1,h2⟩:=aW.at_ i l bl vs he
 rw[hd]at h1
 obtain⟨ga,cap2,bs,ys,b3,b4,_,g1,g2,g3,_⟩:=h1
 refine⟨ga,cap2,bs,b3,?_,g1,g2⟩
 have:=ho.row.2.2.2.2.part (i * 7) 7
 rw[← h2,g3,Nat.zero_add]at this
 exact this
end Ly
def CV(A:List Tm.Ty)(W:Wri)(h:Tm.Hd):Prop:=∀(U w:World) (rb fb B gcap g o gn on:Nat) (cv:Value) (gk:Option Addr) (vs:List Value) (b1:List Nat) (d:Nd) (u:Tm.Wd),Below U.heap.size U w→bN U w rb fb A→ae w g o 70 (Tm.ag h cv)→
 ae w gn on 28 (ad d.name d.kind d.at_ d.size d.val d.text (.slice gk d.kids.len gcap))→an w B 28 7 gk d.kids.len gcap vs→aW w B d.kids b1 vs→d.ok→d.tot≤1000000→ba W h d=some u→
 Calls Tryz.prog 33 #[.map (some fb),.pointer (some ⟨g,o,none⟩),.pointer (some ⟨gn,on,none⟩)] w (cW w u)
theorem CW(A:List Tm.Ty)(W:Wri)(h:Tm.Hd)(hf:Tm.i' h)(hst:∀t,h.k= .struct t→s7 A W t):CV A W h:=by
 intro U w rb fb B gcap g o gn on cv gk vs b1 d u hU hfm hr hn hkO hkE hok htot ho
 cases hk:h.k with
 |scalar wd=>exact vg _ _ cv gn on g o W h wd d u w hk (by have:=hf.1;rw[hk]at this;exact this) hok.1 ho hr hn
 |bytes=>exact xU _ _ cv gn on g o W h d u w hk ho hr hn
 |struct t=>
  obtain⟨ty,h1,h2,h3,W',h4,h5⟩:=hst t hk
  rw[← h2]at hk
  exact nB A W W' ty h1 h4 h5 h3 cv gn on g o h d u U w rb fb B gcap gk vs b1 hU hfm hk ho hr hn hok.2 (by unfold Nd.tot at htot;omega) hkO hkE
theorem A8{W:Wri}{h:Tm.Hd}{d:Nd}{u:Tm.Wd}(hm:Tm.aY h=false)(ho:bc W h d=some u):ba W h d=some u:=by
 unfold bc at ho
 rw[← lG,hm,if_neg (by decide)]at ho
 exact ho
theorem xV{W:Wri}{h:Tm.Hd}{d:Nd}{u:Tm.Wd}(hm:Tm.aY h=true)(ho:bc W h d=some u):d.name=h.name∧d.kind=9∧cG (ba W h) d.kids=some u:=by
 unfold bc at ho
 rw[← lG,hm,if_pos rfl]at ho
 split at ho
 ·cases ho
 ·rename_i hno
  rw[not_or]at hno
  exact⟨Classical.not_not.1 hno.1,Classical.not_not.1 hno.2,ho⟩
theorem Eu{f:Nd→Option Tm.Wd}{d:Nd}{r:Nds}{u:Tm.Wd}(h:cG f (d.put r)=some u):∃a b,f d=some a∧cG f r=some b∧u=a++b:=by
 have h2:(f d).bind (fun u=>(cG f r).map (u++ ·))=some u:=h
 cases h3:f d with
 |none=>rw[h3]at h2;cases h2
 |some a=>
  rw[h3]at h2
  cases h4:cG f r with
  |none=>rw[h4]at h2;cases h2
  |some b=>rw[h4]at h2;injection h2 with h2;exact⟨a,b,rfl,rfl,h2.symm⟩
theorem vh(A:List Tm.Ty)(W:Wri)(h:Tm.Hd)(hO:CV A W h)(hmb:Tm.aY h=false)(U w:World)(rb fb B gcap g o gn on:Nat)(cv:Value)(gk:Option Addr)(vs:List Value)(b1:List Nat)(d:Nd)(u:Tm.Wd)(hU:Below U.heap.size U w)(hfm:bN U w rb fb A)(hr:ae w g o 70 (Tm.ag h cv))
  (hn:ae w gn on 28 (ad d.name d.kind d.at_ d.size d.val d.text (.slice gk d.kids.len gcap)))(hkO:an w B 28 7 gk d.kids.len gcap vs)(hkE:aW w B d.kids b1 vs)(hok:d.ok)(htot:d.tot≤1000000)(ho:bc W h d=some u):
  Calls Tryz.prog 96 #[.map (some fb),.pointer (some ⟨g,o,none⟩),.pointer (some ⟨gn,on,none⟩)] w (cW w u):=by
 have HC:=hid (hO U w rb fb B gcap g o gn on cv gk vs b1 d u hU hfm hr hn hkO hkE hok htot (A8 hmb ho))
 have k7:=hr.cell 7 (by simp[Tm.aj])
 simp only[Tm.ag,Z0,Z1,Y2,hmb]at k7
 clear hO hU hfm hr hn hkO hkE hok htot ho hmb
 go_enter Tryz.func96,Tryz.ntmps96
 go_wp2_with fail
 refine HC.out.mono ?_
 rintro e w1 ⟨hb,rfl⟩
 have HB:=hid hb
 clear hb
 go_wp2_with fail
 go_ret
 exact⟨HB.out,rfl⟩
theorem Ev{w:World}{B n cap:Nat}{a:Option Addr}{xs:List Value}{size:Nat}{e:TypeId}(h:an w B e size a n cap xs):n≤maxLen:=by
 cases a with
 |none=>have:=h.aN.1;omega
 |some x=>exact Nat.le_trans h.row.2.2.1 h.row.2.2.2.1
theorem rG{i n:Nat}(h:i < n)(hn:n≤maxLen):wrap64 ((i:Int)+1)=((i+1:Nat):Int):=by
 have:n≤9223372036854775807:=hn
 exact(IntWalk.wrap64_in _ ⟨by omega,by omega⟩).trans (by omega)
theorem mH{a b:Tm.Wd}(h:a.length+b.length≤1000000):¬(9223372036854775807 < (aa a).size+(aa b).size):=by rw[aq,aq];omega
theorem rH(A:List Tm.Ty)(W:Wri)(hWl:eV W)(h:Tm.Hd)(hO:CV A W h)(hmb:Tm.aY h=true)(U w:World)(rb fb B gcap g o gn on:Nat)(cv:Value)(gk:Option Addr)(vs:List Value)(b1:List Nat)(d:Nd)(u:Tm.Wd)(hU:Below U.heap.size U w)(hfm:bN U w rb fb A)(hr:ae w g o 70 (Tm.ag h cv))
  (hn:ae w gn on 28 (ad d.name d.kind d.at_ d.size d.val d.text (.slice gk d.kids.len gcap)))(hkO:an w B 28 7 gk d.kids.len gcap vs)(hkE:aW w B d.kids b1 vs)(hok:d.ok)(htot:d.tot≤1000000)(ho:bc W h d=some u):
  Calls Tryz.prog 96 #[.map (some fb),.pointer (some ⟨g,o,none⟩),.pointer (some ⟨gn,on,none⟩)] w (cW w u):=by
 obtain⟨hnm,hkd,hrep⟩:=xV hmb ho
 have k7:=hr.cell 7 (by simp[Tm.aj]);have k2:=hr.cell 2 (by simp[Tm.aj])
 simp only[Tm.ag,Z0,Z1,Y2,hmb]at k7 k2
 have n0:=hn.cell 0 (by simp[ad]);have n1:=hn.cell 1 (by simp[ad])
 simp only[ad,Z0,Z1,Y2]at n0 n1
 rw[hnm]at n0
 rw[hkd]at n1
 have hkt:d.kids.tot≤1000000:=by unfold Nd.tot at htot;omega
 have hul:u.length≤d.kids.tot:=s6 (fun d u h=>nX hWl h) _ _ hrep
 have hcap:d.kids.len≤gcap:=aT hkO
 obtain⟨ks,hks⟩:∃ks,ks=d.kids:=⟨_,rfl⟩
 have hok2:=hok.2
 rw[← hks]at hn hkO hkE hrep hkt hul hcap hok2
 obtain⟨nk,hnk⟩:∃nk,nk=ks.len:=⟨_,rfl⟩
 rw[← hnk]at hn hkO hcap
 have HNK:=hid hnk
 have HR:=hid hr;have HN:=hid hn;have HO:=hid hO;have HU:=hid hU;have HFM:=hid hfm;have HKO:=hid hkO;have HKE:=hid hkE;have HREP:=hid hrep;have HKT:=hid hkt;have HOK:=hid hok2;have HUL:=hid hul
 have HCAP:=hid (show nk≤maxLen from Ev hkO)
 clear hr hn hO hU hfm hkO hkE hok htot ho hmb hnm hkd hrep hks hnk hok2 hul
 go_enter Tryz.func96,Tryz.ntmps96
 go_wp2_with fail
 go_still_tail 16,(by kernel_rfl)
 change wpList _ _ _ _ _ w.drew
 go_wp2_with fail
 refine(ef _).mono ?_
 rintro e w1 ⟨rfl,rfl⟩
 clear n0 n1 k2 k7
 obtain⟨V,hV⟩:∃V,V=w.drew:=⟨_,rfl⟩
 rw[← hV]
 have hbV:Below w.heap.size w V:=by rw[hV];exact(Y4 _ _).drew
 have hnV:=HN.out.below hbV HN.out.lt
 have n6:=hnV.cell 6 (by simp[ad])
 simp only[ad,Z0,Z1,Y2]at n6
 have HBV:=hid hbV
 clear hV hbV hnV
 go_wp2_with fail
 go_loopw [7,40] (fun v7 v40 wr=>∃(i:Nat) (acc:Tm.Wd),v7= .string (aa acc)∧v40= .int .i64 (i:Nat)∧i≤nk∧Hid (Below V.heap.size V wr)∧Hid (∃rest,cG (ba W h) (ks.drop i)=some rest∧u=acc++rest)) (fun _ v40 _=>nk - (intOf v40).toNat)
 case atStart=>exact⟨0,[],rfl,rfl,Nat.zero_le _,hid (Y4 _ _),hid ⟨u,by rw[show ks.drop 0=ks by cases ks <;> rfl];exact HREP.out,rfl⟩⟩
 case round=>
  obtain⟨i,acc,rfl,rfl,hi,HB,HQ⟩:=hrel
  by_cases hin:i < nk
  ·have q1:decide ((i:Int) < (nk:Int))=true:=Z9 (by omega)
   have q2:decide (i < nk)=true:=Z9 hin
   have hii:(i:Int) < (nk:Int):=by omega
   have HLT:=hid hin
   obtain⟨x,rfl⟩:∃x,gk=some x:=by
    cases gk with
    |none=>have:=HKO.out.aN.1;omega
    |some x=>exact⟨x,rfl⟩
   obtain⟨gb,rfl⟩:∃gb,x=⟨gb,0,none⟩:=⟨x.block,HKO.out.row.1⟩
   obtain⟨d2,r2,hd1,hd2⟩:=ks.bS i (by rw[← HNK.out];exact hin)
   have hko:=HKO.out
   rw[HNK.out]at hko
   obtain⟨g3,c3,bs3,b3,e1,e2,e3⟩:=aW.nd hko HKE.out hd1
   have hbw:Below w.heap.size w wr:=HBV.out.trans (HB.out.mono HBV.out.size)
   obtain⟨rest,hr1,hr2⟩:=HQ.out
   rw[hd1]at hr1
   obtain⟨a2,b2,f1,f2,f3⟩:=Eu hr1
   have ht2:d2.tot≤ks.tot:=by have:=ks.ib i;rw[hd1,eN]at this;omega
   have hok2:d2.ok:=by have:=ks.nW i HOK.out;rw[hd1]at this;exact(pD this).1
   have HC:=hid (HO.out U wr rb fb B c3 g o gb (i * 7) cv g3 bs3 b3 d2 a2 (HU.out.trans (hbw.mono HU.out.size)) (HFM.out.al (hbw.block _ HFM.out.lt)) (HR.out.below hbw HR.out.lt) (e1.below hbw e1.lt) (e2.below hbw (Z5 _)) (e3.al _ _ _ (fun b hb=>hbw.block b (e3.mem _ _ _ b hb).2)) hok2 (by have:=HKT.out;omega) f1)
   have HQ2:=hid (show cG (ba W h) (ks.drop (i+1))=some b2∧u=(acc++a2)++b2 from⟨by rw[hd2];exact f2,by rw[hr2,f3,List.append_assoc]⟩)
   have hlen:(acc++a2).length≤u.length:=by rw[HQ2.out.2];simp
   have hss:=mH (a:=acc) (b:=a2) (by rw[← Z7];have:=HUL.out;have:=HKT.out;omega)
   have n6b:=((HN.out.below hbw HN.out.lt).cell 6 (by simp[ad]))
   simp only[ad,Z0,Z1,Y2]at n6b
   clear hin hi hd1 hd2 hko e1 e2 e3 hbw hr1 hr2 f1 f2 f3 ht2 hok2 hlen
   go_wp2_with fail
   refine HC.out.mono ?_
   rintro e w5 ⟨hb5,rfl⟩
   have HB5:=hid hb5
   clear hb5
   go_wp2_with fail
   go_roundw
   case rel=>exact⟨i+1,acc++a2,by first|rfl|rw[gj],by first|rfl|rw[rG HLT.out HCAP.out],by have:=HLT.out;omega,hid (HB.out.trans (HB5.out.mono HB.out.size)),hid ⟨b2,HQ2.out⟩⟩
   case measure=>(try rw[rG HLT.out HCAP.out]);simp only[intOf];have:=HLT.out;omega
  ·have q1:decide ((i:Int) < (nk:Int))=false:=Y9 (by omega)
   have q2:decide (i < nk)=false:=Y9 hin
   have hEQ:i=nk:=by omega
   have HEQ:=hid hEQ
   clear hin hi hEQ
   go_wp2_with fail
   go_ret
   refine⟨HBV.out.trans (HB.out.mono HBV.out.size),?_⟩
   obtain⟨rest,hr1,hr2⟩:=HQ.out
   rw[HEQ.out,HNK.out,ks.cD]at hr1
   have:rest=[]:=by injection hr1 with h;exact h.symm
   rw[hr2,this,List.append_nil]
   rfl
end
section
set_option maxRecDepth 100000
set_option maxHeartbeats 2000000
open Go Go.RowKit
open Rd
open Ly
theorem rI(A:List Tm.Ty)(W:Wri)(body:Tm.Its)(hI:kh A W body)(cv:Value)(gn on g o ai:Nat)(d:Nd)(u:Tm.Wd)(U w:World)(rb fb B gcap capi:Nat)(gi gk:Option Addr)(bs vs:List Value)(b1:List Nat)
  (hU:Below U.heap.size U w)(hfm:bN U w rb fb A)(hnm:d.name=[])(hkd:d.kind=4)(hu:kg W body d.val d.kids=some u)(hoi:an U (rb+1) 70 13 gi body.len capi bs)(hen:Tm.bo U rb body bs)(hr:ae w g o 70 (Tm.au ai cv (.slice gi body.len capi)))(hn:ae w gn on 28 (ad d.name d.kind d.at_ d.size d.val d.text (.slice gk d.kids.len gcap)))
  (hok:d.kids.ok)(htot:d.kids.tot≤1000000)(hkO:an w B 28 7 gk d.kids.len gcap vs)(hkE:aW w B d.kids b1 vs):
  Calls Tryz.prog 96 #[.map (some fb),.pointer (some ⟨g,o,none⟩),.pointer (some ⟨gn,on,none⟩)] w (cW w u):=by
 have HC:=hid (A7 A W body hI cv gn on g o ai d u U w rb fb B gcap capi gi gk bs vs b1 hU hfm hnm hkd hu hoi hen hr hn hok htot hkO hkE)
 have k7:=hr.cell 7 (by simp[Tm.aZ])
 simp only[Tm.au,Z0,Z1,Y2]at k7
 clear hI hU hfm hnm hkd hu hoi hen hr hn hok htot hkO hkE
 go_enter Tryz.func96,Tryz.ntmps96
 go_wp2_with fail
 refine HC.out.mono ?_
 rintro e w1 ⟨hb,rfl⟩
 have HB:=hid hb
 clear hb
 go_wp2_with fail
 go_ret
 exact⟨HB.out,rfl⟩
theorem Ew{W:Wri}{h:Tm.Hd}{l:Tm.Its}{d:Nd}{r:Nds}{u:Tm.Wd}(ho:aG W (.cons h l) (d.put r)=some u):∃a b,bc W h d=some a∧aG W l r=some b∧u=a++b:=by
 have h2:(bc W h d).bind (fun u=>(aG W l r).map (u++ ·))=some u:=ho
 cases h3:bc W h d with
 |none=>rw[h3]at h2;cases h2
 |some a=>
  rw[h3]at h2
  cases h4:aG W l r with
  |none=>rw[h4]at h2;cases h2
  |some b=>rw[h4]at h2;injection h2 with h2;exact⟨a,b,rfl,rfl,h2.symm⟩
theorem CX{W:Wri}{ai:Nat}{c:Ex.X}{body l:Tm.Its}{d:Nd}{r:Nds}{u:Tm.Wd}(ho:aG W (.when ai c body l) (d.put r)=some u):∃a b,d.name=[]∧d.kind=4∧kg W body d.val d.kids=some a∧aG W l r=some b∧u=a++b:=by
 have h2:aG W (.when ai c body l) (.cons d.name d.kind d.at_ d.size d.val d.text d.kids r)=some u:=ho
 rw[ca]at h2
 split at h2
 ·cases h2
 ·rename_i hno
  rw[not_or]at hno
  cases h3:kg W body d.val d.kids with
  |none=>rw[h3]at h2;cases h2
  |some a=>
   rw[h3]at h2
   simp only[Option.bind_some]at h2
   cases h4:aG W l r with
   |none=>rw[h4]at h2;cases h2
   |some b=>rw[h4]at h2;injection h2 with h2;exact⟨a,b,Classical.not_not.1 hno.1,Classical.not_not.1 hno.2,rfl,rfl,h2.symm⟩
theorem aw{i n:Nat}(h:i < n)(hn:n≤100000):wrap64 ((i:Int)+1)=((i+1:Nat):Int):=(IntWalk.wrap64_in _ ⟨by omega,by omega⟩).trans (by omega)
theorem s8(A:List Tm.Ty)(W:Wri)(hWl:eV W)(l:Tm.Its)(hF:Tm.bC l)(hlen0:l.len≤100000)(hW:∀i a c b r,l.drop i= .when a c b r→kh A W b)
  (hSt:∀i h r t,l.drop i= .cons h r→h.k= .struct t→s7 A W t):kh A W l:=by
 intro U w rb fb cap gcap B ga gk bs vs ks b1 u hU hfm ho hen hkO hkE hok htot hu
 have hcap:l.len≤cap:=aT ho
 have hgcap:ks.len≤gcap:=aT hkO
 have hll:=pE l ks u hu
 have hul:=jP hWl l ks u hu
 obtain⟨n,hn⟩:∃n,n=l.len:=⟨_,rfl⟩
 rw[← hll]at hkO hgcap⊢
 rw[← hn]at hcap ho hlen0 hkO hgcap⊢
 have hlt0:((n:Int)==(n:Int))=true:=by rw[beq_iff_eq]
 have HN:=hid hn;have HLL:=hid hll
 have HU:=hid hU;have HFM:=hid hfm;have HOI:=hid ho;have HEN:=hid hen;have HKO:=hid hkO;have HKE:=hid hkE;have HOK:=hid hok;have HTOT:=hid htot;have HF:=hid hF;have HW:=hid hW;have HST:=hid hSt;have HUL:=hid hul;have HQ0:=hid hu
 clear hn hll hU hfm ho hen hkO hkE hok htot hF hW hSt hul hu
 go_enter Tryz.func68,Tryz.ntmps68
 go_wp2_with fail
 refine(ef _).mono ?_
 rintro e w1 ⟨rfl,rfl⟩
 go_wp2_with fail
 go_loopw [7,17] (fun v7 v17 wr=>∃(i:Nat) (acc:Tm.Wd),v7= .string (aa acc)∧v17= .int .i64 (i:Nat)∧i≤n∧Hid (Below w.heap.size w wr)∧Hid (∃rest,aG W (l.drop i) (ks.drop i)=some rest∧u=acc++rest)) (fun _ v17 _=>n - (intOf v17).toNat)
 case atStart=>exact⟨0,[],rfl,rfl,Nat.zero_le _,hid (Y4 _ _),hid ⟨u,by rw[show ks.drop 0=ks by cases ks <;> rfl,show l.drop 0=l by cases l <;> rfl];exact HQ0.out,rfl⟩⟩
 case round=>
  obtain⟨i,acc,rfl,rfl,hi,HB,HQ⟩:=hrel
  by_cases hin:i < n
  ·have q1:decide ((i:Int) < (n:Int))=true:=Z9 (by omega)
   have q2:decide (i < n)=true:=Z9 hin
   have hii:(i:Int) < (n:Int):=by omega
   have hi0:(0:Int)≤(i:Int):=by omega
   have HLT:=hid hin
   obtain⟨x,rfl⟩:∃x,gk=some x:=by
    cases gk with
    |none=>have:=HKO.out.aN.1;omega
    |some x=>exact⟨x,rfl⟩
   obtain⟨gb,rfl⟩:∃gb,x=⟨gb,0,none⟩:=⟨x.block,HKO.out.row.1⟩
   obtain⟨y,rfl⟩:∃y,ga=some y:=by
    cases ga with
    |none=>have:=HOI.out.aN.1;omega
    |some y=>exact⟨y,rfl⟩
   obtain⟨gi,rfl⟩:∃gi,y=⟨gi,0,none⟩:=⟨y.block,HOI.out.row.1⟩
   obtain⟨d2,r2,hd1,hd2⟩:=ks.bS i (by rw[← HLL.out,← HN.out];exact hin)
   have hko:=HKO.out
   rw[HN.out,HLL.out]at hko
   obtain⟨g3,c3,bs3,b3,e1,e2,e3⟩:=aW.nd hko HKE.out hd1
   have hoi:=HOI.out
   rw[HN.out]at hoi
   obtain⟨rest,hr1,hr2⟩:=HQ.out
   rw[hd1]at hr1
   have ht2:d2.tot≤ks.tot:=by have:=ks.ib i;rw[hd1,eN]at this;omega
   have hok2:d2.ok:=by have:=ks.nW i HOK.out;rw[hd1]at this;exact(pD this).1
   have hfd:=Tm.cV i l HF.out
   have hkt:=HTOT.out
   have key:∃a2 b2,(∀X,Below w.heap.size w X→Calls Tryz.prog 96 #[.map (some fb),.pointer (some ⟨gi,i * 13,none⟩),.pointer (some ⟨gb,i * 7,none⟩)] X (cW X a2))∧aG W (l.drop (i+1)) (ks.drop (i+1))=some b2∧rest=a2++b2:=by
    rcases Tm.bS l i (by rw[← HN.out];exact hin)with⟨h,r,hdr⟩|⟨a,c,bd,r,hdr⟩
    ·rw[hdr]at hr1 hfd
     obtain⟨cv,hcv,hrow,hnx⟩:=Tm.bo.hd hoi HEN.out hdr
     obtain⟨a2,b2,f1,f2,f3⟩:=Ew hr1
     refine⟨a2,b2,fun X hX=> ?_,by rw[hnx,hd2];exact f2,f3⟩
     have hO:=CW A W h hfd.1 (fun t ht=>HST.out i h r t hdr ht)
     have hUX:Below U.heap.size U X:=HU.out.trans (hX.mono HU.out.size)
     have hrX:=hrow.below hUX hrow.lt
     cases hmb:Tm.aY h with
     |true=>exact rH A W hWl h hO hmb U X rb fb B c3 gi (i * 13) gb (i * 7) cv g3 bs3 b3 d2 a2 hUX (HFM.out.al (hX.block _ HFM.out.lt)) hrX (e1.below hX e1.lt) (e2.below hX (Z5 _)) (e3.al _ _ _ (fun b hb=>hX.block b (e3.mem _ _ _ b hb).2)) hok2 (by omega) f1
     |false=>exact vh A W h hO hmb U X rb fb B c3 gi (i * 13) gb (i * 7) cv g3 bs3 b3 d2 a2 hUX (HFM.out.al (hX.block _ HFM.out.lt)) hrX (e1.below hX e1.lt) (e2.below hX (Z5 _)) (e3.al _ _ _ (fun b hb=>hX.block b (e3.mem _ _ _ b hb).2)) hok2 (by omega) f1
    ·rw[hdr]at hr1 hfd
     obtain⟨cb,gc,capc,bsc,hxc,hoc,hec,hrow,hnx⟩:=Tm.bo.wh hoi HEN.out hdr
     obtain⟨a2,b2,p1,p2,f1,f2,f3⟩:=CX hr1
     refine⟨a2,b2,fun X hX=> ?_,by rw[hnx,hd2];exact f2,f3⟩
     have hUX:Below U.heap.size U X:=HU.out.trans (hX.mono HU.out.size)
     exact rI A W bd (HW.out i a c bd r hdr) _ gb (i * 7) gi (i * 13) a d2 a2 U X rb fb B c3 capc gc g3 bsc bs3 b3 hUX (HFM.out.al (hX.block _ HFM.out.lt)) p1 p2 f1 hoc hec (hrow.below hUX hrow.lt) (e1.below hX e1.lt) hok2.2 (by unfold Nd.tot at ht2;omega) (e2.below hX (Z5 _)) (e3.al _ _ _ (fun b hb=>hX.block b (e3.mem _ _ _ b hb).2))
   obtain⟨a2,b2,hC,f2,f3⟩:=key
   have HC:=hid (hC wr.drew HB.out.drew)
   have HQ2:=hid (show aG W (l.drop (i+1)) (ks.drop (i+1))=some b2∧u=(acc++a2)++b2 from⟨f2,by rw[hr2,f3,List.append_assoc]⟩)
   have hlen:(acc++a2).length≤u.length:=by rw[HQ2.out.2];simp
   have hss:=mH (a:=acc) (b:=a2) (by rw[← Z7];have:=HUL.out;omega)
   have hs2:¬(9223372036854775807 < acc.length+a2.length):=by rw[← Z7];have:=HUL.out;omega
   have hs3:decide (9223372036854775807 < acc.length+a2.length)=false:=Y9 hs2
   have HL9:=hid (show n≤100000 from hlen0)
   clear hin hi hd1 hd2 hko e1 e2 e3 hoi hr1 hr2 f2 f3 ht2 hok2 hlen hC hfd hkt
   go_wp2_with fail
   go_region_held3 (fun _=>True) (trivial)
    (first
     |(go_at_call 96;(refine HC.out.mono ?_);(rintro e w5 ⟨hb5,rfl⟩)))
   all_goals
    have HB5:=hid (show Below w.heap.size w w5 from HB.out.trans (Below.trans (Y4 _ _).drew (hb5.mono HB.out.size)))
    clear hb5
    go_wp2_with fail
    go_roundw
    case rel=>exact⟨i+1,acc++a2,by first|rfl|rw[gj],by first|rfl|rw[aw HLT.out HL9.out],by have:=HLT.out;omega,HB5,hid ⟨b2,HQ2.out⟩⟩
    case measure=>(try rw[aw HLT.out HL9.out]);simp only[intOf];have:=HLT.out;omega
  ·have q1:decide ((i:Int) < (n:Int))=false:=Y9 (by omega)
   have q2:decide (i < n)=false:=Y9 hin
   have hEQ:i=n:=by omega
   have HEQ:=hid hEQ
   clear hin hi hEQ
   go_wp2_with fail
   go_ret
   refine⟨HB.out,?_⟩
   obtain⟨rest,hr1,hr2⟩:=HQ.out
   have e1:ks.drop i= .nil:=by rw[HEQ.out,HN.out,HLL.out];exact ks.cD
   have e2:l.drop i= .nil:=by rw[HEQ.out,HN.out];exact Tm.cD l
   rw[e1,e2]at hr1
   have:rest=[]:=by injection hr1 with h;exact h.symm
   rw[hr2,this,List.append_nil]
   rfl
end
end Go.Proofs.YtlomecfhobehnaaGreatDoor
