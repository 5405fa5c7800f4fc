import Derived.Test.YtlomecfhobehnaaGreatDoorMgFixDrops23
set_option linter.all false
set_option maxRecDepth 100000
set_option maxHeartbeats 2000000
namespace Go.Proofs.YtlomecfhobehnaaGreatDoor
open Lib (hid)
section
open Go Go.RowKit
open Rd
open Ly
namespace Ly
def Nds.tot:Nds→Nat
 | .nil=>0
 | .cons _ _ _ _ _ tx ks r=>tx.length+8+ks.tot+r.tot
def Nds.ok:Nds→Prop
 | .nil=>True
 | .cons _ _ _ _ v _ ks r=>Ex.InR v∧ks.ok∧r.ok
def Nd.tot(d:Nd):Nat:=d.text.length+8+d.kids.tot
def Nd.ok(d:Nd):Prop:=Ex.InR d.val∧d.kids.ok
def Nds.drop:Nat→Nds→Nds
 |0,l=>l
 |_+1,.nil=> .nil
 |n+1,.cons _ _ _ _ _ _ _ r=>r.drop n
theorem Nds.df:∀l:Nds,l.drop l.len= .nil
 | .nil=>rfl
 | .cons _ _ _ _ _ _ _ r=>Nds.df r
theorem Nds.cF:∀(l:Nds) (i:Nat),i < l.len→∃(d:Nd) (r:Nds),l.drop i=d.put r∧l.drop (i+1)=r
 | .nil,i,h=>by simp[Nds.len]at h
 | .cons a b c d e f g r,0,_=>⟨⟨a,b,c,d,e,f,g⟩,r,rfl,by cases r <;> rfl⟩
 | .cons _ _ _ _ _ _ _ r,i+1,h=>Nds.cF r i (by simp[Nds.len]at h;omega)
theorem Nds.jJ:∀(l:Nds) (i:Nat),(l.drop i).tot≤l.tot
 |l,0=>by cases l <;> exact Z5 _
 | .nil,i+1=>Z5 _
 | .cons _ _ _ _ _ _ _ r,i+1=>by have:=Nds.jJ r i;simp only[Nds.drop,Nds.tot];omega
theorem Nds.pq:∀(l:Nds) (i:Nat),l.ok→(l.drop i).ok
 |l,0,h=>by cases l <;> exact h
 | .nil,i+1,h=>h
 | .cons _ _ _ _ _ _ _ r,i+1,h=>Nds.pq r i h.2.2
theorem fP(d:Nd)(r:Nds):(d.put r).tot=d.tot+r.tot:=rfl
theorem qI{d:Nd}{r:Nds}(h:(d.put r).ok):d.ok∧r.ok:=⟨⟨h.1,h.2.1⟩,h.2.2⟩
theorem Ip(w:Tm.Wd)(v:Int):(qj w v).length=bo w:=by unfold qj mf;simp
end Ly
theorem JN(w:Tm.Wd):bo w≤8:=by
 cases hk:Tm.kindOf w with
 |none=>unfold bo;rw[hk];exact Nat.zero_le _
 |some k=>have:=(mh (show(Tm.kindOf w).isSome=true by rw[hk];rfl)).1;omega
namespace Ly
def fs(W:Wri):Prop:=∀nm ks u,W nm ks=some u→u.length≤ks.tot
theorem pw{W:Wri}(hW:fs W){h:Tm.Hd}{d:Nd}{u:Tm.Wd}(ho:aX W h d=some u):u.length≤d.tot:=by
 unfold aX at ho;unfold Nd.tot;split at ho
 ·cases ho
 ·cases hk:h.k with
  |scalar w=>
   rw[hk]at ho;simp only[]at ho;split at ho
   ·cases ho;rw[Ip];have:=JN w;omega
   ·cases ho
  |bytes=>rw[hk]at ho;cases ho;omega
  |struct t=>rw[hk]at ho;have:=hW _ _ _ ho;omega
theorem uO{f:Nd→Option Tm.Wd}(hf:∀d u,f d=some u→u.length≤d.tot):∀(ks:Nds) (u:Tm.Wd),bc f ks=some u→u.length≤ks.tot
 | .nil,u,h=>by cases h;exact Nat.zero_le _
 | .cons a b c d e g k r,u,h=>by
  unfold bc at h;cases h1:f ⟨a,b,c,d,e,g,k⟩with
  |none=>rw[h1]at h;cases h
  |some x=>
   rw[h1]at h;simp only[Option.bind_some]at h;cases h2:bc f r with
   |none=>rw[h2]at h;cases h
   |some y=>
    rw[h2]at h;cases h;have g1:=hf _ _ h1;have g2:=uO hf r y h2;simp only[Nd.tot]at g1;simp only[Z7,Nds.tot];omega
theorem FE{W:Wri}(hW:fs W){h:Tm.Hd}{d:Nd}{u:Tm.Wd}(ho:aY W h d=some u):u.length≤d.tot:=by
 unfold aY at ho;split at ho
 ·split at ho
  ·cases ho
  ·have:=uO (fun d u h=>pw hW h) _ _ ho;unfold Nd.tot;omega
 ·exact pw hW ho
def kW(W:Wri)(body:Tm.Its)(e:Int)(k:Nds):Option Tm.Wd:=if e=0 then(match k with| .nil=>some []| .cons _ _ _ _ _ _ _ _=>none)else aF W body k
theorem bI(W:Wri)(a0:Nat)(c0:Ex.X)(body l:Tm.Its)(nm:Tm.Wd)(kd at_ sz:Nat)(e:Int)(tx:Tm.Wd)(k r:Nds):aF W (.when a0 c0 body l) (.cons nm kd at_ sz e tx k r)=if nm≠[]∨kd≠4 then none else(kW W body e k).bind fun u=>(aF W l r).map (u++ ·):=by cases k <;> rfl
theorem kx{W:Wri}(hW:fs W):∀(l:Tm.Its) (ks:Nds) (u:Tm.Wd),aF W l ks=some u→u.length≤ks.tot
 | .nil,.nil,u,h=>by cases h;exact Nat.zero_le _
 | .nil,.cons ..,u,h=>by cases h
 | .cons h l,.nil,u,e=>by cases e
 | .cons h l,.cons a b c d e g k r,u,ho=>by
  unfold aF at ho;cases h1:aY W h ⟨a,b,c,d,e,g,k⟩with
  |none=>rw[h1]at ho;cases ho
  |some x=>
   rw[h1]at ho;simp only[Option.bind_some]at ho;cases h2:aF W l r with
   |none=>rw[h2]at ho;cases ho
   |some y=>
    rw[h2]at ho;cases ho;have g1:=FE hW h1;have g2:=kx hW l r y h2;simp only[Nd.tot]at g1;simp only[Z7,Nds.tot];omega
 | .when _ _ _ _,.nil,u,e=>by cases e
 | .when _ _ body l,.cons a b c d e g k r,u,ho=>by
  rw[bI]at ho;split at ho
  ·cases ho
  ·cases h1:kW W body e k with
   |none=>rw[h1]at ho;cases ho
   |some x=>
    rw[h1]at ho;simp only[Option.bind_some]at ho;cases h2:aF W l r with
    |none=>rw[h2]at ho;cases ho
    |some y=>
     rw[h2]at ho;cases ho;have g2:=kx hW l r y h2;have g1:x.length≤k.tot:=by
      unfold kW at h1;split at h1
      ·split at h1
       ·cases h1;exact Nat.zero_le _
       ·cases h1
      ·exact kx hW body k x h1
     simp only[Z7,Nds.tot];omega
theorem nU:∀l:List Tm.Ty,fs (wrS l)
 |[],nm,ks,u,h=>by cases h
 |t::r,nm,ks,u,h=>by
  unfold wrS at h;split at h
  ·exact kx (nU r) _ _ _ h
  ·exact nU r nm ks u h
theorem qJ{W:Wri}:∀(l:Tm.Its) (ks:Nds) (u:Tm.Wd),aF W l ks=some u→l.len=ks.len
 | .nil,.nil,u,h=>rfl
 | .nil,.cons ..,u,h=>by cases h
 | .cons h l,.nil,u,e=>by cases e
 | .cons h l,.cons a b c d e g k r,u,ho=>by
  unfold aF at ho;cases h1:aY W h ⟨a,b,c,d,e,g,k⟩with
  |none=>rw[h1]at ho;cases ho
  |some x=>
   rw[h1]at ho;simp only[Option.bind_some]at ho;cases h2:aF W l r with
   |none=>rw[h2]at ho;cases ho
   |some y=>simp only[Tm.Its.len,Nds.len];rw[qJ l r y h2]
 | .when _ _ _ _,.nil,u,e=>by cases e
 | .when _ _ body l,.cons a b c d e g k r,u,ho=>by
  rw[bI]at ho;split at ho
  ·cases ho
  ·cases h1:kW W body e k with
   |none=>rw[h1]at ho;cases ho
   |some x=>
    rw[h1]at ho;simp only[Option.bind_some]at ho;cases h2:aF W l r with
    |none=>rw[h2]at ho;cases ho
    |some y=>simp only[Tm.Its.len,Nds.len];rw[qJ l r y h2]
end Ly
theorem ew(w:World):Calls Tryz.prog 66 #[.bool false] w fun e w'=>e= .returned (.tuple #[])∧w=w':=by
 go_enter Tryz.func66,Tryz.ntmps66;go_wp2_with fail;refine bodyPost_end (results_none rfl _ _ _) rfl ?_;exact⟨rfl,rfl⟩
def di(w:World)(u:Tm.Wd)(e:Ending)(w':World):Prop:=Below w.heap.size w w'∧e= .returned (.string (aa u))
namespace Ly
theorem iB{W:Wri}{h:Tm.Hd}{d:Nd}{u:Tm.Wd}(ho:aX W h d=some u):d.name=h.name∧d.kind=kNo h.k∧(match h.k with
 | .scalar w=>(if dG w d.val then some (qj w d.val)else none)
 | .bytes=>some d.text
 | .struct t=>W t d.kids)=some u:=by
 unfold aX at ho;split at ho
 ·cases ho
 ·rename_i hno
  rw[not_or]at hno;exact⟨Classical.not_not.1 hno.1,Classical.not_not.1 hno.2,ho⟩
end Ly
theorem zN(fv sv cv:Value)(gn on g o:Nat)(W:Wri)(h:Tm.Hd)(d:Nd)(u:Tm.Wd)(w:World)(hk:h.k= .bytes)(ho:aX W h d=some u)(hr:ae w g o 70 (Tm.ag h cv))(hn:ae w gn on 28 (ab d.name d.kind d.at_ d.size d.val d.text sv)):
  Calls Tryz.prog 33 #[fv,.pointer (some ⟨g,o,none⟩),.pointer (some ⟨gn,on,none⟩)] w (di w u):=by
 obtain⟨hnm,hkd,hu⟩:=iB ho;rw[hk]at hkd hu;have hkd:d.kind=2:=hkd;have hu2:d.text=u:=by injection hu
 subst hu2;clear ho hu;have n0:=hn.cell 0 (by simp[ab]);have n1:=hn.cell 1 (by simp[ab]);have k0:=hr.cell 0 (by simp[Tm.aj]);have k2:=hr.cell 2 (by simp[Tm.aj]);simp only[ab,Z0,Z1,Y2]at n0 n1;simp only[Tm.ag,hk,Tm.aJ,Z0,Z1,Y2]at k0 k2;have HR:=hid hr;have HN:=hid hn;rw[hnm]at n0;rw[hkd]at n1;clear hr hn hnm hkd;go_enter Tryz.func33,Tryz.ntmps33;go_wp2_with fail;go_still_tail 20,(by kernel_rfl);change wpList _ _ _ _ _ w.drew;go_wp2_with fail;refine(ew _).mono ?_;rintro e w1 ⟨rfl,rfl⟩;clear n0 n1 k2;obtain⟨V,hV⟩:∃V,V=w.drew:=⟨_,rfl⟩;rw[← hV];have hbV:Below w.heap.size w V:=by rw[hV];exact(Y4 _ _).drew
 have hrV:=HR.out.below hbV HR.out.lt;have hnV:=HN.out.below hbV HN.out.lt;have k0:=hrV.cell 0 (by simp[Tm.aj]);have n5:=hnV.cell 5 (by simp[ab]);simp only[Tm.ag,hk,Tm.aJ,ab,Z0,Z1,Y2]at k0 n5;have HBV:=hid hbV;clear hV hbV hrV hnV;go_wp2_with fail;go_ret;exact⟨HBV.out,rfl⟩
theorem FF{wd:Tm.Wd}{v:Int}(h:dG wd v=true):(eR wd=true→(iv (fi v) (bo wd)==v)=true)∧(eR wd=false→(decide (0≤v)&&(((jm (fi v) (bo wd):Nat):Int)==((fi v:Nat):Int)))=true):=by
 unfold dG at h;constructor
 ·intro hs;rw[hs,if_pos rfl]at h;rw[beq_iff_eq];exact of_decide_eq_true h
 ·intro hs;rw[hs,if_neg (by decide)]at h;rw[Bool.and_eq_true]at h⊢;refine⟨h.1,?_⟩;rw[beq_iff_eq];have:=of_decide_eq_true h.2;omega
theorem xx(fv sv cv:Value)(gn on g o:Nat)(W:Wri)(h:Tm.Hd)(wd:Tm.Wd)(d:Nd)(u:Tm.Wd)(w:World)(hk:h.k= .scalar wd)(hkw:(Tm.kindOf wd).isSome=true)(hv:Ex.InR d.val)(ho:aX W h d=some u)(hr:ae w g o 70 (Tm.ag h cv))(hn:ae w gn on 28 (ab d.name d.kind d.at_ d.size d.val d.text sv)):
  Calls Tryz.prog 33 #[fv,.pointer (some ⟨g,o,none⟩),.pointer (some ⟨gn,on,none⟩)] w (di w u):=by
 obtain⟨hnm,hkd,hu⟩:=iB ho;rw[hk]at hkd hu;have hkd:d.kind=1:=hkd;have hu1:(if dG wd d.val=true then some (qj wd d.val)else none)=some u:=hu;have hfit:dG wd d.val=true:=by
  cases hf:dG wd d.val with
  |true=>rfl
  |false=>rw[hf]at hu1;cases hu1
 rw[if_pos hfit]at hu1;have hu2:qj wd d.val=u:=by injection hu1
 obtain⟨kv1,kv2,kv3⟩:=qm hkw;obtain⟨wo1,wo2,wo3⟩:=mh hkw;obtain⟨fy1,fy2⟩:=FF hfit;have HU:=hid hu2;clear ho hu hu1 hu2 hfit;have n0:=hn.cell 0 (by simp[ab]);have n1:=hn.cell 1 (by simp[ab]);have k0:=hr.cell 0 (by simp[Tm.aj]);have k2:=hr.cell 2 (by simp[Tm.aj]);simp only[ab,Z0,Z1,Y2]at n0 n1;simp only[Tm.ag,hk,Tm.aJ,Z0,Z1,Y2]at k0 k2;have HR:=hid hr;have HN:=hid hn;rw[hnm]at n0;rw[hkd]at n1;clear hr hn hnm hkd;go_enter Tryz.func33,Tryz.ntmps33;go_wp2_with fail;go_still_tail 20,(by kernel_rfl);change wpList _ _ _ _ _ w.drew;go_wp2_with fail;refine(ew _).mono ?_;rintro e w1 ⟨rfl,rfl⟩;clear n0 n1 k2;obtain⟨V,hV⟩:∃V,V=w.drew:=⟨_,rfl⟩;rw[← hV];have hbV:Below w.heap.size w V:=by rw[hV];exact(Y4 _ _).drew
 have hrV:=HR.out.below hbV HR.out.lt;have hnV:=HN.out.below hbV HN.out.lt;have k0:=hrV.cell 0 (by simp[Tm.aj]);have k4:=hrV.cell 4 (by simp[Tm.aj]);have k5:=hrV.cell 5 (by simp[Tm.aj]);have k6:=hrV.cell 6 (by simp[Tm.aj]);have n4:=hnV.cell 4 (by simp[ab]);simp only[Tm.ag,hk,Tm.aJ,Tm.bA,ab,Z0,Z1,Y2]at k0 k4 k5 k6 n4;rw[kv1]at k4;rw[kv2]at k5;rw[kv3]at k6;have HFT:=hid (fun W=>sU d.val (bo wd) W hv.1 hv.2 (by omega) (by omega));have HFF:=hid (fun W=>qo d.val (bo wd) W hv.1 hv.2 (by omega) (by omega));have HPUT:=hid (fun W=>Hv (fi d.val) (bo wd) (gh wd) W wo1 wo2);have HBV:=hid hbV;have HRV:=hid hrV;have HNV:=hid hnV;have wu:IntKind.u64.wrap d.val=((fi d.val:Nat):Int):=nK d.val;obtain⟨dv,hdv⟩:∃dv,dv=d.val:=⟨_,rfl⟩;rw[← hdv]at n4 HFT HFF HPUT fy1 fy2 wu;have HDV:=hid hdv;clear hV hbV hrV hnV hv hdv wo1 wo2 wo3;have hFIT:∀W,Calls Tryz.prog 39 #[.int .i64 dv,.int .i64 (bo wd:Nat),.bool (eR wd)] W fun e w'=>e= .returned (.bool true)∧W=w':=by
  intro W;cases hs:eR wd with
  |true=>have:=HFT.out W;rw[fy1 hs]at this;exact this
  |false=>have:=HFF.out W;rw[fy2 hs]at this;exact this
 have HFIT:=hid hFIT;clear hFIT fy1 fy2;go_wp2_with fail;go_quiet (first|(go_at_call 39;with_reducible exact Calls.quiet_of_same (tX (HFIT.out _)))|(go_at_call 66;with_reducible exact Calls.quiet_of_same (tX (ew _))));obtain⟨V2,hV2⟩:∃V2,V2=V.drewN nq:=⟨_,rfl⟩;rw[← hV2];have hb2:Below w.heap.size w V2:=by rw[hV2];exact fy HBV.out _
 have hr2:ae V2 g o 70 (Tm.ag h cv):=by rw[hV2];exact HRV.out.drewN _
 have hn2:ae V2 gn on 28 (ab d.name d.kind d.at_ d.size d.val d.text sv):=by rw[hV2];exact HNV.out.drewN _
 have hSS:∀W,Below w.heap.size w W→ae W g o 70 (Tm.ag h cv)→ae W gn on 28 (ab d.name d.kind d.at_ d.size d.val d.text sv)→W.cell? ⟨gn,on+4,none⟩=some (.int .i64 dv)∧W.cell? ⟨g,o+4,none⟩=some (.int .i64 (bo wd:Nat))∧W.cell? ⟨g,o+5,none⟩=some (.int .i64 (gh wd:Nat))∧Hid (Below w.heap.size w W∧ae W g o 70 (Tm.ag h cv)∧ae W gn on 28 (ab d.name d.kind d.at_ d.size d.val d.text sv)):=by
  intro W hb hr hn;have k4:=hr.cell 4 (by simp[Tm.aj]);have k5:=hr.cell 5 (by simp[Tm.aj]);have n4:=hn.cell 4 (by simp[ab]);simp only[Tm.ag,hk,Tm.bA,ab,Z0,Z1,Y2]at k4 k5 n4;rw[kv1]at k4;rw[kv2]at k5;rw[← HDV.out]at n4;exact⟨n4,k4,k5,hid ⟨hb,hr,hn⟩⟩
 have hS0:=hSS V2 hb2 hr2 hn2;have hS1:=hSS V2.drew hb2.drew hr2.drew hn2.drew;have HSS:=hid hSS;clear hV2 hb2 hr2 hn2 hSS k0 k4 k5 k6 n4;have k4:=hS0.2.1;have k5:=hS0.2.2.1;have n4:=hS0.1;go_wp2_with fail;go_region_held3 (fun W=>W.cell? ⟨gn,on+4,none⟩=some (.int .i64 dv)∧W.cell? ⟨g,o+4,none⟩=some (.int .i64 (bo wd:Nat))∧W.cell? ⟨g,o+5,none⟩=some (.int .i64 (gh wd:Nat))∧Hid (Below w.heap.size w W∧ae W g o 70 (Tm.ag h cv)∧ae W gn on 28 (ab d.name d.kind d.at_ d.size d.val d.text sv)))
  (first
   |exact hS1
   |assumption)
  (first
   |(go_at_call 67;(with_reducible refine(HPUT.out _).mono ?_);(rintro e w6 ⟨rfl,hb6⟩);(have hS6:=HSS.out w6 (hS1.2.2.2.out.1.trans (hb6.mono hS1.2.2.2.out.1.size)) (hS1.2.2.2.out.2.1.below hb6 hS1.2.2.2.out.2.1.lt) (hS1.2.2.2.out.2.2.below hb6 hS1.2.2.2.out.2.2.lt))))
 all_goals
  go_wp2_with fail;go_ret;refine⟨hS6.2.2.2.out.1,?_⟩;rw[← HU.out];unfold qj;rw[← HDV.out];rfl
def kX(A:List Tm.Ty)(W:Wri)(l:Tm.Its):Prop:=∀(U w:World) (rb fb cap gcap B:Nat) (ga gk:Option Addr) (bs vs:List Value) (ks:Nds) (b1:List Nat) (u:Tm.Wd),Below U.heap.size U w→bV U w rb fb A→ak U (rb+1) 70 13 ga l.len cap bs→Tm.bu U rb l bs→
 ak w B 28 7 gk ks.len gcap vs→aU w B ks b1 vs→ks.ok→ks.tot≤1000000→aF W l ks=some u→
 Calls Tryz.prog 68 #[.map (some fb),.slice ga l.len cap,.slice gk ks.len gcap] w (di w u)
def uP(A:List Tm.Ty)(W:Wri)(nm:Tm.Wd):Prop:=∃t∈A,t.name=nm∧t.name.length≤100000∧∃W',(∀ks,W t.name ks=aF W' t.items ks)∧kX A W' t.items
theorem oL(A:List Tm.Ty)(W W':Wri)(t:Tm.Ty)(ht:t∈A)(hW:∀ks,W t.name ks=aF W' t.items ks)(hI:kX A W' t.items)(htl:t.name.length≤100000)(cv:Value)(gn on g o:Nat)(h:Tm.Hd)(d:Nd)(u:Tm.Wd)(U w:World)(rb fb B gcap:Nat)(gk:Option Addr)(vs:List Value)(b1:List Nat)
  (hU:Below U.heap.size U w)(hfm:bV U w rb fb A)(hk:h.k= .struct t.name)(ho:aX W h d=some u)(hr:ae w g o 70 (Tm.ag h cv))(hn:ae w gn on 28 (ab d.name d.kind d.at_ d.size d.val d.text (.slice gk d.kids.len gcap)))
  (hok:d.kids.ok)(htot:d.kids.tot≤1000000)(hkO:ak w B 28 7 gk d.kids.len gcap vs)(hkE:aU w B d.kids b1 vs):
  Calls Tryz.prog 33 #[.map (some fb),.pointer (some ⟨g,o,none⟩),.pointer (some ⟨gn,on,none⟩)] w (di w u):=by
 obtain⟨hnm,hkd,hu⟩:=iB ho;rw[hk]at hkd hu;have hkd:d.kind=3:=hkd;have hu2:aF W' t.items d.kids=some u:=(hW d.kids).symm.trans hu;obtain⟨ga,cap,bs,hoi,hen,hlk⟩:=hfm.look ht htl;have hC:=fun X (hX:Below w.heap.size w X)=>hI U X rb fb cap gcap B ga gk bs vs d.kids b1 u (hU.trans (hX.mono hU.size)) (hfm.an (hX.block _ hfm.lt)) hoi hen (hkO.below hX (Z5 _)) (hkE.an _ _ _ (fun b hb=>hX.block b (hkE.mem _ _ _ b hb).2)) hok htot hu2
 have HC:=hid hC;have hlk0:∀j,(Instr.lookup 59 (.map (some fb)) (.string (aa t.name)) false).run Tryz.prog (w.drewN j)= .ok (.slice ga t.items.len cap) (w.drewN j):=fun j=>hlk _ rfl
 have HLK:=hid hlk;have HFL:=hid hfm.lt;clear ho hu hu2 hfm hC hlk hlk0 hoi hen hkO hkE hU hW;have n0:=hn.cell 0 (by simp[ab]);have n1:=hn.cell 1 (by simp[ab]);have k0:=hr.cell 0 (by simp[Tm.aj]);have k2:=hr.cell 2 (by simp[Tm.aj]);simp only[ab,Z0,Z1,Y2]at n0 n1;simp only[Tm.ag,hk,Tm.aJ,Z0,Z1,Y2]at k0 k2;have HR:=hid hr;have HN:=hid hn;rw[hnm]at n0;rw[hkd]at n1;clear hr hn hnm hkd;go_enter Tryz.func33,Tryz.ntmps33;go_wp2_with fail;go_still_tail 20,(by kernel_rfl);change wpList _ _ _ _ _ w.drew;go_wp2_with fail;refine(ew _).mono ?_;rintro e w1 ⟨rfl,rfl⟩;clear n0 n1 k2;obtain⟨V,hV⟩:∃V,V=w.drew:=⟨_,rfl⟩;rw[← hV];have hbV:Below w.heap.size w V:=by rw[hV];exact(Y4 _ _).drew
 have hrV:=HR.out.below hbV HR.out.lt;have hnV:=HN.out.below hbV HN.out.lt;have k0:=hrV.cell 0 (by simp[Tm.aj]);have k3:=hrV.cell 3 (by simp[Tm.aj]);have n6:=hnV.cell 6 (by simp[ab]);simp only[Tm.ag,hk,Tm.aJ,Tm.bw,ab,Z0,Z1,Y2]at k0 k3 n6;have hfl:=HFL.out;have hSS:∀W,Below V.heap.size V W→W.cell? ⟨g,o+3,none⟩=some (.string (aa t.name))∧(Instr.lookup 59 (.map (some fb)) (.string (aa t.name)) false).run Tryz.prog W= .ok (.slice ga t.items.len cap) W∧W.cell? ⟨gn,on+6,none⟩=some (.slice gk d.kids.len gcap)∧Hid (Below V.heap.size V W):=by
  intro W hb;exact⟨(hb.cell (World.block_lt_of_cell? _ _ k3)).trans k3,HLK.out W ((hb.block _ (Nat.lt_of_lt_of_le hfl hbV.size)).trans (hbV.block _ hfl)),(hb.cell (World.block_lt_of_cell? _ _ n6)).trans n6,hid hb⟩
 have hS1:=hSS V.drew (Y4 _ _).drew;have HSS:=hid hSS;have HBV:=hid hbV;have HC2:=hid (fun W (hW:Below V.heap.size V W)=>HC.out W (hbV.trans (hW.mono hbV.size)));clear hV hbV hrV hnV hSS k3 n6 hfl;go_wp2_with fail;go_region_held3 (fun W=>W.cell? ⟨g,o+3,none⟩=some (.string (aa t.name))∧(Instr.lookup 59 (.map (some fb)) (.string (aa t.name)) false).run Tryz.prog W= .ok (.slice ga t.items.len cap) W∧W.cell? ⟨gn,on+6,none⟩=some (.slice gk d.kids.len gcap)∧Hid (Below V.heap.size V W))
  (first
   |exact hS1
   |assumption)
  (first
   |(go_at_call 68;(with_reducible refine(HC2.out _ ?_).mono ?_);(next=>exact(Y4 _ _).drew);(rintro e w6 ⟨hb6,rfl⟩);(have hS6:=HSS.out w6 (Below.trans (Y4 V.heap.size V).drew hb6))))
 all_goals
  go_wp2_with fail;go_ret;exact⟨HBV.out.trans (hS6.2.2.2.out.mono HBV.out.size),rfl⟩
theorem Dw(A:List Tm.Ty)(W:Wri)(body:Tm.Its)(hI:kX A W body)(cv:Value)(gn on g o ai:Nat)(d:Nd)(u:Tm.Wd)(U w:World)(rb fb B gcap capi:Nat)(gi gk:Option Addr)(bs vs:List Value)(b1:List Nat)
  (hU:Below U.heap.size U w)(hfm:bV U w rb fb A)(hnm:d.name=[])(hkd:d.kind=4)(hu:kW W body d.val d.kids=some u)(hoi:ak U (rb+1) 70 13 gi body.len capi bs)(hen:Tm.bu U rb body bs)(hr:ae w g o 70 (Tm.au ai cv (.slice gi body.len capi)))(hn:ae w gn on 28 (ab d.name d.kind d.at_ d.size d.val d.text (.slice gk d.kids.len gcap)))
  (hok:d.kids.ok)(htot:d.kids.tot≤1000000)(hkO:ak w B 28 7 gk d.kids.len gcap vs)(hkE:aU w B d.kids b1 vs):
  Calls Tryz.prog 33 #[.map (some fb),.pointer (some ⟨g,o,none⟩),.pointer (some ⟨gn,on,none⟩)] w (di w u):=by
 have hC:=fun X (hX:Below w.heap.size w X) (hv:aF W body d.kids=some u)=>hI U X rb fb capi gcap B gi gk bs vs d.kids b1 u (hU.trans (hX.mono hU.size)) (hfm.an (hX.block _ hfm.lt)) hoi hen (hkO.below hX (Z5 _)) (hkE.an _ _ _ (fun b hb=>hX.block b (hkE.mem _ _ _ b hb).2)) hok htot hv
 have HC:=hid hC;obtain⟨dv,hdv⟩:∃dv,dv=d.val:=⟨_,rfl⟩;have HDV:=hid hdv;have HU:=hid hu;clear hC hoi hen hkO hkE hU hfm hu hdv;have n0:=hn.cell 0 (by simp[ab]);have n1:=hn.cell 1 (by simp[ab]);have k0:=hr.cell 0 (by simp[Tm.bh]);have k2:=hr.cell 2 (by simp[Tm.bh]);simp only[ab,Z0,Z1,Y2]at n0 n1;simp only[Tm.au,Z0,Z1,Y2]at k0 k2;have HR:=hid hr;have HN:=hid hn;rw[hnm]at n0;rw[hkd]at n1;clear hr hn hnm hkd;go_enter Tryz.func33,Tryz.ntmps33;go_wp2_with fail;go_still_tail 20,(by kernel_rfl);change wpList _ _ _ _ _ w.drew;go_wp2_with fail;refine(ew _).mono ?_;rintro e w1 ⟨rfl,rfl⟩;clear n0 n1 k2;obtain⟨V,hV⟩:∃V,V=w.drew:=⟨_,rfl⟩;rw[← hV];have hbV:Below w.heap.size w V:=by rw[hV];exact(Y4 _ _).drew
 have hrV:=HR.out.below hbV HR.out.lt;have hnV:=HN.out.below hbV HN.out.lt;have k0:=hrV.cell 0 (by simp[Tm.bh]);have k12:=hrV.cell 12 (by simp[Tm.bh]);have n4:=hnV.cell 4 (by simp[ab]);have n6:=hnV.cell 6 (by simp[ab]);simp only[Tm.au,ab,Z0,Z1,Y2]at k0 k12 n4 n6;rw[← HDV.out]at n4;have HBV:=hid hbV
 by_cases hv0:dv=0
 ·have hk0:d.kids= .nil∧u=[]:=by
   have:=HU.out;unfold kW at this;rw[← HDV.out,if_pos hv0]at this;cases hk:d.kids with
   |nil=>rw[hk]at this;injection this with h;exact⟨rfl,h.symm⟩
   |cons=>rw[hk]at this;cases this
  obtain⟨hk1,rfl⟩:=hk0;rw[hk1]at n6;subst hv0;have n6':V.cell? ⟨gn,on+6,none⟩=some (.slice gk 0 gcap):=n6;clear hV hbV hrV hnV n6 hk1;go_wp2_with fail;refine(ew _).mono ?_;rintro e w2 ⟨rfl,rfl⟩;go_wp2_with fail;go_ret;exact⟨HBV.out,rfl⟩
 ·have hvd:decide (dv=0)=false:=Y9 hv0;have hvb:(dv==0)=false:=Z8.2 hv0;have hv1:aF W body d.kids=some u:=by
   have:=HU.out;unfold kW at this;rw[← HDV.out,if_neg hv0]at this;exact this
  have hSS:∀W,Below V.heap.size V W→W.cell? ⟨g,o+12,none⟩=some (.slice gi body.len capi)∧W.cell? ⟨gn,on+6,none⟩=some (.slice gk d.kids.len gcap)∧Hid (Below V.heap.size V W):=by
   intro W hb;exact⟨(hb.cell (World.block_lt_of_cell? _ _ k12)).trans k12,(hb.cell (World.block_lt_of_cell? _ _ n6)).trans n6,hid hb⟩
  have hS1:=hSS V.drew (Y4 _ _).drew;have HSS:=hid hSS;have HC2:=hid (fun W (hW:Below V.heap.size V W)=>HC.out W (hbV.trans (hW.mono hbV.size)) hv1);clear hV hbV hrV hnV hSS k12 n6 hv0 hv1;go_wp2_with fail;go_region_held3 (fun W=>W.cell? ⟨g,o+12,none⟩=some (.slice gi body.len capi)∧W.cell? ⟨gn,on+6,none⟩=some (.slice gk d.kids.len gcap)∧Hid (Below V.heap.size V W))
   (first
    |exact hS1
    |assumption)
   (first
    |(go_at_call 68;(with_reducible refine(HC2.out _ ?_).mono ?_);(next=>exact(Y4 _ _).drew);(rintro e w6 ⟨hb6,rfl⟩);(have hS6:=HSS.out w6 (Below.trans (Y4 V.heap.size V).drew hb6))))
  all_goals
   go_wp2_with fail;go_ret;exact⟨HBV.out.trans (hS6.2.2.out.mono HBV.out.size),rfl⟩
namespace Ly
theorem aU.at_{w:World}{B:Nat}:∀(i:Nat) (l:Nds) (bl:List Nat) (vs:List Value),aU w B l bl vs→∃us b2,aU w B (l.drop i) b2 us∧us=vs.drop (i * 7)
 |0,l,bl,vs,h=>⟨vs,bl,by cases l <;> exact h,by simp⟩
 |i+1,.nil,bl,vs,h=>⟨[],[],⟨rfl,rfl⟩,by rw[h.1];simp⟩
 |i+1,.cons nm kd a sz v tx ks r,bl,vs,h=>by
  obtain⟨ga,cap,bs,us,b1,b2,rfl,h1,h3,rfl,h5⟩:=h;obtain⟨ys,b3,g1,g2⟩:=aU.at_ i r b2 us h5;refine⟨ys,b3,g1,?_⟩;rw[g2,show(i+1) * 7=(ab nm kd a sz v tx (.slice ga ks.len cap)).length+i * 7 by show _=7+i * 7;omega,Tm.mo]
theorem aU.nd{w:World}{B i cap:Nat}{l r:Nds}{bl:List Nat}{vs:List Value}{x:Addr}{d:Nd}(ho:ak w B 28 7 (some x) l.len cap vs)(he:aU w B l bl vs)(hd:l.drop i=d.put r):
  ∃ga cap2 bs b1,ae w x.block (i * 7) 28 (ab d.name d.kind d.at_ d.size d.val d.text (.slice ga d.kids.len cap2))∧ak w B 28 7 ga d.kids.len cap2 bs∧aU w B d.kids b1 bs:=by
 obtain⟨us,b2,h1,h2⟩:=aU.at_ i l bl vs he;rw[hd]at h1;obtain⟨ga,cap2,bs,ys,b3,b4,_,g1,g2,g3,_⟩:=h1;refine⟨ga,cap2,bs,b3,?_,g1,g2⟩;have:=ho.row.2.2.2.2.part (i * 7) 7;rw[← h2,g3,Nat.zero_add]at this;exact this
end Ly
def FG(A:List Tm.Ty)(W:Wri)(h:Tm.Hd):Prop:=∀(U w:World) (rb fb B gcap g o gn on:Nat) (cv:Value) (gk:Option Addr) (vs:List Value) (b1:List Nat) (d:Nd) (u:Tm.Wd),Below U.heap.size U w→bV U w rb fb A→ae w g o 70 (Tm.ag h cv)→
 ae w gn on 28 (ab d.name d.kind d.at_ d.size d.val d.text (.slice gk d.kids.len gcap))→ak w B 28 7 gk d.kids.len gcap vs→aU w B d.kids b1 vs→d.ok→d.tot≤1000000→aX W h d=some u→
 Calls Tryz.prog 33 #[.map (some fb),.pointer (some ⟨g,o,none⟩),.pointer (some ⟨gn,on,none⟩)] w (di w u)
theorem FH(A:List Tm.Ty)(W:Wri)(h:Tm.Hd)(hf:Tm.ju h)(hst:∀t,h.k= .struct t→uP A W t):FG A W h:=by
 intro U w rb fb B gcap g o gn on cv gk vs b1 d u hU hfm hr hn hkO hkE hok htot ho;cases hk:h.k with
 |scalar wd=>exact xx _ _ cv gn on g o W h wd d u w hk (by have:=hf.1;rw[hk]at this;exact this) hok.1 ho hr hn
 |bytes=>exact zN _ _ cv gn on g o W h d u w hk ho hr hn
 |struct t=>
  obtain⟨ty,h1,h2,h3,W',h4,h5⟩:=hst t hk;rw[← h2]at hk;exact oL A W W' ty h1 h4 h5 h3 cv gn on g o h d u U w rb fb B gcap gk vs b1 hU hfm hk ho hr hn hok.2 (by unfold Nd.tot at htot;omega) hkO hkE
theorem Dx{W:Wri}{h:Tm.Hd}{d:Nd}{u:Tm.Wd}(hm:Tm.ba h=false)(ho:aY W h d=some u):aX W h d=some u:=by
 unfold aY at ho;rw[← my,hm,if_neg (by decide)]at ho;exact ho
theorem zO{W:Wri}{h:Tm.Hd}{d:Nd}{u:Tm.Wd}(hm:Tm.ba h=true)(ho:aY W h d=some u):d.name=h.name∧d.kind=9∧bc (aX W h) d.kids=some u:=by
 unfold aY at ho;rw[← my,hm,if_pos rfl]at ho;split at ho
 ·cases ho
 ·rename_i hno
  rw[not_or]at hno;exact⟨Classical.not_not.1 hno.1,Classical.not_not.1 hno.2,ho⟩
theorem Iq{f:Nd→Option Tm.Wd}{d:Nd}{r:Nds}{u:Tm.Wd}(h:bc f (d.put r)=some u):∃a b,f d=some a∧bc f r=some b∧u=a++b:=by
 have h2:(f d).bind (fun u=>(bc f r).map (u++ ·))=some u:=h;cases h3:f d with
 |none=>rw[h3]at h2;cases h2
 |some a=>
  rw[h3]at h2;cases h4:bc f r with
  |none=>rw[h4]at h2;cases h2
  |some b=>rw[h4]at h2;injection h2 with h2;exact⟨a,b,rfl,rfl,h2.symm⟩
theorem xy(A:List Tm.Ty)(W:Wri)(h:Tm.Hd)(hO:FG A W h)(hmb:Tm.ba h=false)(U w:World)(rb fb B gcap g o gn on:Nat)(cv:Value)(gk:Option Addr)(vs:List Value)(b1:List Nat)(d:Nd)(u:Tm.Wd)(hU:Below U.heap.size U w)(hfm:bV U w rb fb A)(hr:ae w g o 70 (Tm.ag h cv))
  (hn:ae w gn on 28 (ab d.name d.kind d.at_ d.size d.val d.text (.slice gk d.kids.len gcap)))(hkO:ak w B 28 7 gk d.kids.len gcap vs)(hkE:aU w B d.kids b1 vs)(hok:d.ok)(htot:d.tot≤1000000)(ho:aY W h d=some u):
  Calls Tryz.prog 96 #[.map (some fb),.pointer (some ⟨g,o,none⟩),.pointer (some ⟨gn,on,none⟩)] w (di w u):=by
 have HC:=hid (hO U w rb fb B gcap g o gn on cv gk vs b1 d u hU hfm hr hn hkO hkE hok htot (Dx hmb ho));have k7:=hr.cell 7 (by simp[Tm.aj]);simp only[Tm.ag,Z0,Z1,Y2,hmb]at k7;clear hO hU hfm hr hn hkO hkE hok htot ho hmb;go_enter Tryz.func96,Tryz.ntmps96;go_wp2_with fail;refine HC.out.mono ?_;rintro e w1 ⟨hb,rfl⟩;have HB:=hid hb;clear hb;go_wp2_with fail;go_ret;exact⟨HB.out,rfl⟩
theorem Ir{w:World}{B n cap:Nat}{a:Option Addr}{xs:List Value}{size:Nat}{e:TypeId}(h:ak w B e size a n cap xs):n≤maxLen:=by
 cases a with
 |none=>have:=h.aS.1;omega
 |some x=>exact Nat.le_trans h.row.2.2.1 h.row.2.2.2.1
theorem tq{i n:Nat}(h:i < n)(hn:n≤maxLen):wrap64 ((i:Int)+1)=((i+1:Nat):Int):=by
 have:n≤9223372036854775807:=hn;exact(IntWalk.wrap64_in _ ⟨by omega,by omega⟩).trans (by omega)
theorem nV{a b:Tm.Wd}(h:a.length+b.length≤1000000):¬(9223372036854775807 < (aa a).size+(aa b).size):=by rw[aq,aq];omega
theorem tr(A:List Tm.Ty)(W:Wri)(hWl:fs W)(h:Tm.Hd)(hO:FG A W h)(hmb:Tm.ba h=true)(U w:World)(rb fb B gcap g o gn on:Nat)(cv:Value)(gk:Option Addr)(vs:List Value)(b1:List Nat)(d:Nd)(u:Tm.Wd)(hU:Below U.heap.size U w)(hfm:bV U w rb fb A)(hr:ae w g o 70 (Tm.ag h cv))
  (hn:ae w gn on 28 (ab d.name d.kind d.at_ d.size d.val d.text (.slice gk d.kids.len gcap)))(hkO:ak w B 28 7 gk d.kids.len gcap vs)(hkE:aU w B d.kids b1 vs)(hok:d.ok)(htot:d.tot≤1000000)(ho:aY W h d=some u):
  Calls Tryz.prog 96 #[.map (some fb),.pointer (some ⟨g,o,none⟩),.pointer (some ⟨gn,on,none⟩)] w (di w u):=by
 obtain⟨hnm,hkd,hrep⟩:=zO hmb ho;have k7:=hr.cell 7 (by simp[Tm.aj]);have k2:=hr.cell 2 (by simp[Tm.aj]);simp only[Tm.ag,Z0,Z1,Y2,hmb]at k7 k2;have n0:=hn.cell 0 (by simp[ab]);have n1:=hn.cell 1 (by simp[ab]);simp only[ab,Z0,Z1,Y2]at n0 n1;rw[hnm]at n0;rw[hkd]at n1;have hkt:d.kids.tot≤1000000:=by unfold Nd.tot at htot;omega
 have hul:u.length≤d.kids.tot:=uO (fun d u h=>pw hWl h) _ _ hrep;have hcap:d.kids.len≤gcap:=aW hkO;obtain⟨ks,hks⟩:∃ks,ks=d.kids:=⟨_,rfl⟩;have hok2:=hok.2;rw[← hks]at hn hkO hkE hrep hkt hul hcap hok2;obtain⟨nk,hnk⟩:∃nk,nk=ks.len:=⟨_,rfl⟩;rw[← hnk]at hn hkO hcap;have HNK:=hid hnk;have HR:=hid hr;have HN:=hid hn;have HO:=hid hO;have HU:=hid hU;have HFM:=hid hfm;have HKO:=hid hkO;have HKE:=hid hkE;have HREP:=hid hrep;have HKT:=hid hkt;have HOK:=hid hok2;have HUL:=hid hul;have HCAP:=hid (show nk≤maxLen from Ir hkO);clear hr hn hO hU hfm hkO hkE hok htot ho hmb hnm hkd hrep hks hnk hok2 hul;go_enter Tryz.func96,Tryz.ntmps96;go_wp2_with fail;go_still_tail 16,(by kernel_rfl);change wpList _ _ _ _ _ w.drew;go_wp2_with fail;refine(ew _).mono ?_;rintro e w1 ⟨rfl,rfl⟩;clear n0 n1 k2 k7;obtain⟨V,hV⟩:∃V,V=w.drew:=⟨_,rfl⟩;rw[← hV];have hbV:Below w.heap.size w V:=by rw[hV];exact(Y4 _ _).drew
 have hnV:=HN.out.below hbV HN.out.lt;have n6:=hnV.cell 6 (by simp[ab]);simp only[ab,Z0,Z1,Y2]at n6;have HBV:=hid hbV;clear hV hbV hnV;go_wp2_with fail;go_loopw [7,40] (fun v7 v40 wr=>∃(i:Nat) (acc:Tm.Wd),v7= .string (aa acc)∧v40= .int .i64 (i:Nat)∧i≤nk∧Hid (Below V.heap.size V wr)∧Hid (∃rest,bc (aX W h) (ks.drop i)=some rest∧u=acc++rest)) (fun _ v40 _=>nk - (intOf v40).toNat)
 case atStart=>exact⟨0,[],rfl,rfl,Nat.zero_le _,hid (Y4 _ _),hid ⟨u,by rw[show ks.drop 0=ks by cases ks <;> rfl];exact HREP.out,rfl⟩⟩
 case round=>
  obtain⟨i,acc,rfl,rfl,hi,HB,HQ⟩:=hrel
  by_cases hin:i < nk
  ·have q1:decide ((i:Int) < (nk:Int))=true:=Z9 (by omega);have q2:decide (i < nk)=true:=Z9 hin;have hii:(i:Int) < (nk:Int):=by omega
   have HLT:=hid hin;obtain⟨x,rfl⟩:∃x,gk=some x:=by
    cases gk with
    |none=>have:=HKO.out.aS.1;omega
    |some x=>exact⟨x,rfl⟩
   obtain⟨gb,rfl⟩:∃gb,x=⟨gb,0,none⟩:=⟨x.block,HKO.out.row.1⟩;obtain⟨d2,r2,hd1,hd2⟩:=ks.cF i (by rw[← HNK.out];exact hin);have hko:=HKO.out;rw[HNK.out]at hko;obtain⟨g3,c3,bs3,b3,e1,e2,e3⟩:=aU.nd hko HKE.out hd1;have hbw:Below w.heap.size w wr:=HBV.out.trans (HB.out.mono HBV.out.size);obtain⟨rest,hr1,hr2⟩:=HQ.out;rw[hd1]at hr1;obtain⟨a2,b2,f1,f2,f3⟩:=Iq hr1;have ht2:d2.tot≤ks.tot:=by have:=ks.jJ i;rw[hd1,fP]at this;omega
   have hok2:d2.ok:=by have:=ks.pq i HOK.out;rw[hd1]at this;exact(qI this).1
   have HC:=hid (HO.out U wr rb fb B c3 g o gb (i * 7) cv g3 bs3 b3 d2 a2 (HU.out.trans (hbw.mono HU.out.size)) (HFM.out.an (hbw.block _ HFM.out.lt)) (HR.out.below hbw HR.out.lt) (e1.below hbw e1.lt) (e2.below hbw (Z5 _)) (e3.an _ _ _ (fun b hb=>hbw.block b (e3.mem _ _ _ b hb).2)) hok2 (by have:=HKT.out;omega) f1);have HQ2:=hid (show bc (aX W h) (ks.drop (i+1))=some b2∧u=(acc++a2)++b2 from⟨by rw[hd2];exact f2,by rw[hr2,f3,List.append_assoc]⟩);have hlen:(acc++a2).length≤u.length:=by rw[HQ2.out.2];simp
   have hss:=nV (a:=acc) (b:=a2) (by rw[← Z7];have:=HUL.out;have:=HKT.out;omega);have n6b:=((HN.out.below hbw HN.out.lt).cell 6 (by simp[ab]));simp only[ab,Z0,Z1,Y2]at n6b;clear hin hi hd1 hd2 hko e1 e2 e3 hbw hr1 hr2 f1 f2 f3 ht2 hok2 hlen;go_wp2_with fail;refine HC.out.mono ?_;rintro e w5 ⟨hb5,rfl⟩;have HB5:=hid hb5;clear hb5;go_wp2_with fail;go_roundw
   case rel=>exact⟨i+1,acc++a2,by first|rfl|rw[gN],by first|rfl|rw[tq HLT.out HCAP.out],by have:=HLT.out;omega,hid (HB.out.trans (HB5.out.mono HB.out.size)),hid ⟨b2,HQ2.out⟩⟩
   case measure=>(try rw[tq HLT.out HCAP.out]);simp only[intOf];have:=HLT.out;omega
  ·have q1:decide ((i:Int) < (nk:Int))=false:=Y9 (by omega);have q2:decide (i < nk)=false:=Y9 hin;have hEQ:i=nk:=by omega
   have HEQ:=hid hEQ;clear hin hi hEQ;go_wp2_with fail;go_ret;refine⟨HBV.out.trans (HB.out.mono HBV.out.size),?_⟩;obtain⟨rest,hr1,hr2⟩:=HQ.out;rw[HEQ.out,HNK.out,ks.df]at hr1;have:rest=[]:=by injection hr1 with h;exact h.symm
   rw[hr2,this,List.append_nil];rfl
theorem tt(A:List Tm.Ty)(W:Wri)(body:Tm.Its)(hI:kX A W body)(cv:Value)(gn on g o ai:Nat)(d:Nd)(u:Tm.Wd)(U w:World)(rb fb B gcap capi:Nat)(gi gk:Option Addr)(bs vs:List Value)(b1:List Nat)
  (hU:Below U.heap.size U w)(hfm:bV U w rb fb A)(hnm:d.name=[])(hkd:d.kind=4)(hu:kW W body d.val d.kids=some u)(hoi:ak U (rb+1) 70 13 gi body.len capi bs)(hen:Tm.bu U rb body bs)(hr:ae w g o 70 (Tm.au ai cv (.slice gi body.len capi)))(hn:ae w gn on 28 (ab d.name d.kind d.at_ d.size d.val d.text (.slice gk d.kids.len gcap)))
  (hok:d.kids.ok)(htot:d.kids.tot≤1000000)(hkO:ak w B 28 7 gk d.kids.len gcap vs)(hkE:aU w B d.kids b1 vs):
  Calls Tryz.prog 96 #[.map (some fb),.pointer (some ⟨g,o,none⟩),.pointer (some ⟨gn,on,none⟩)] w (di w u):=by
 have HC:=hid (Dw A W body hI cv gn on g o ai d u U w rb fb B gcap capi gi gk bs vs b1 hU hfm hnm hkd hu hoi hen hr hn hok htot hkO hkE);have k7:=hr.cell 7 (by simp[Tm.bh]);simp only[Tm.au,Z0,Z1,Y2]at k7;clear hI hU hfm hnm hkd hu hoi hen hr hn hok htot hkO hkE;go_enter Tryz.func96,Tryz.ntmps96;go_wp2_with fail;refine HC.out.mono ?_;rintro e w1 ⟨hb,rfl⟩;have HB:=hid hb;clear hb;go_wp2_with fail;go_ret;exact⟨HB.out,rfl⟩
theorem Is{W:Wri}{h:Tm.Hd}{l:Tm.Its}{d:Nd}{r:Nds}{u:Tm.Wd}(ho:aF W (.cons h l) (d.put r)=some u):∃a b,aY W h d=some a∧aF W l r=some b∧u=a++b:=by
 have h2:(aY W h d).bind (fun u=>(aF W l r).map (u++ ·))=some u:=ho;cases h3:aY W h d with
 |none=>rw[h3]at h2;cases h2
 |some a=>
  rw[h3]at h2;cases h4:aF W l r with
  |none=>rw[h4]at h2;cases h2
  |some b=>rw[h4]at h2;injection h2 with h2;exact⟨a,b,rfl,rfl,h2.symm⟩
theorem FI{W:Wri}{ai:Nat}{c:Ex.X}{body l:Tm.Its}{d:Nd}{r:Nds}{u:Tm.Wd}(ho:aF W (.when ai c body l) (d.put r)=some u):∃a b,d.name=[]∧d.kind=4∧kW W body d.val d.kids=some a∧aF W l r=some b∧u=a++b:=by
 have h2:aF W (.when ai c body l) (.cons d.name d.kind d.at_ d.size d.val d.text d.kids r)=some u:=ho;rw[bI]at h2;split at h2
 ·cases h2
 ·rename_i hno
  rw[not_or]at hno;cases h3:kW W body d.val d.kids with
  |none=>rw[h3]at h2;cases h2
  |some a=>
   rw[h3]at h2;simp only[Option.bind_some]at h2;cases h4:aF W l r with
   |none=>rw[h4]at h2;cases h2
   |some b=>rw[h4]at h2;injection h2 with h2;exact⟨a,b,Classical.not_not.1 hno.1,Classical.not_not.1 hno.2,rfl,rfl,h2.symm⟩
theorem az{i n:Nat}(h:i < n)(hn:n≤100000):wrap64 ((i:Int)+1)=((i+1:Nat):Int):=(IntWalk.wrap64_in _ ⟨by omega,by omega⟩).trans (by omega)
theorem uQ(A:List Tm.Ty)(W:Wri)(hWl:fs W)(l:Tm.Its)(hF:Tm.bG l)(hlen0:l.len≤100000)(hW:∀i a c b r,l.drop i= .when a c b r→kX A W b)
  (hSt:∀i h r t,l.drop i= .cons h r→h.k= .struct t→uP A W t):kX A W l:=by
 intro U w rb fb cap gcap B ga gk bs vs ks b1 u hU hfm ho hen hkO hkE hok htot hu;have hcap:l.len≤cap:=aW ho;have hgcap:ks.len≤gcap:=aW hkO;have hll:=qJ l ks u hu;have hul:=kx hWl l ks u hu;obtain⟨n,hn⟩:∃n,n=l.len:=⟨_,rfl⟩;rw[← hll]at hkO hgcap⊢;rw[← hn]at hcap ho hlen0 hkO hgcap⊢;have hlt0:((n:Int)==(n:Int))=true:=by rw[beq_iff_eq]
 have HN:=hid hn;have HLL:=hid hll;have HU:=hid hU;have HFM:=hid hfm;have HOI:=hid ho;have HEN:=hid hen;have HKO:=hid hkO;have HKE:=hid hkE;have HOK:=hid hok;have HTOT:=hid htot;have HF:=hid hF;have HW:=hid hW;have HST:=hid hSt;have HUL:=hid hul;have HQ0:=hid hu;clear hn hll hU hfm ho hen hkO hkE hok htot hF hW hSt hul hu;go_enter Tryz.func68,Tryz.ntmps68;go_wp2_with fail;refine(ew _).mono ?_;rintro e w1 ⟨rfl,rfl⟩;go_wp2_with fail;go_loopw [7,17] (fun v7 v17 wr=>∃(i:Nat) (acc:Tm.Wd),v7= .string (aa acc)∧v17= .int .i64 (i:Nat)∧i≤n∧Hid (Below w.heap.size w wr)∧Hid (∃rest,aF W (l.drop i) (ks.drop i)=some rest∧u=acc++rest)) (fun _ v17 _=>n - (intOf v17).toNat)
 case atStart=>exact⟨0,[],rfl,rfl,Nat.zero_le _,hid (Y4 _ _),hid ⟨u,by rw[show ks.drop 0=ks by cases ks <;> rfl,show l.drop 0=l by cases l <;> rfl];exact HQ0.out,rfl⟩⟩
 case round=>
  obtain⟨i,acc,rfl,rfl,hi,HB,HQ⟩:=hrel
  by_cases hin:i < n
  ·have q1:decide ((i:Int) < (n:Int))=true:=Z9 (by omega);have q2:decide (i < n)=true:=Z9 hin;have hii:(i:Int) < (n:Int):=by omega
   have hi0:(0:Int)≤(i:Int):=by omega
   have HLT:=hid hin;obtain⟨x,rfl⟩:∃x,gk=some x:=by
    cases gk with
    |none=>have:=HKO.out.aS.1;omega
    |some x=>exact⟨x,rfl⟩
   obtain⟨gb,rfl⟩:∃gb,x=⟨gb,0,none⟩:=⟨x.block,HKO.out.row.1⟩;obtain⟨y,rfl⟩:∃y,ga=some y:=by
    cases ga with
    |none=>have:=HOI.out.aS.1;omega
    |some y=>exact⟨y,rfl⟩
   obtain⟨gi,rfl⟩:∃gi,y=⟨gi,0,none⟩:=⟨y.block,HOI.out.row.1⟩;obtain⟨d2,r2,hd1,hd2⟩:=ks.cF i (by rw[← HLL.out,← HN.out];exact hin);have hko:=HKO.out;rw[HN.out,HLL.out]at hko;obtain⟨g3,c3,bs3,b3,e1,e2,e3⟩:=aU.nd hko HKE.out hd1;have hoi:=HOI.out;rw[HN.out]at hoi;obtain⟨rest,hr1,hr2⟩:=HQ.out;rw[hd1]at hr1;have ht2:d2.tot≤ks.tot:=by have:=ks.jJ i;rw[hd1,fP]at this;omega
   have hok2:d2.ok:=by have:=ks.pq i HOK.out;rw[hd1]at this;exact(qI this).1
   have hfd:=Tm.dh i l HF.out;have hkt:=HTOT.out;have key:∃a2 b2,(∀X,Below w.heap.size w X→Calls Tryz.prog 96 #[.map (some fb),.pointer (some ⟨gi,i * 13,none⟩),.pointer (some ⟨gb,i * 7,none⟩)] X (di X a2))∧aF W (l.drop (i+1)) (ks.drop (i+1))=some b2∧rest=a2++b2:=by
    rcases Tm.cF l i (by rw[← HN.out];exact hin)with⟨h,r,hdr⟩|⟨a,c,bd,r,hdr⟩
    ·rw[hdr]at hr1 hfd;obtain⟨cv,hcv,hrow,hnx⟩:=Tm.bu.hd hoi HEN.out hdr;obtain⟨a2,b2,f1,f2,f3⟩:=Is hr1;refine⟨a2,b2,fun X hX=> ?_,by rw[hnx,hd2];exact f2,f3⟩;have hO:=FH A W h hfd.1 (fun t ht=>HST.out i h r t hdr ht);have hUX:Below U.heap.size U X:=HU.out.trans (hX.mono HU.out.size);have hrX:=hrow.below hUX hrow.lt;cases hmb:Tm.ba h with
     |true=>exact tr A W hWl h hO hmb U X rb fb B c3 gi (i * 13) gb (i * 7) cv g3 bs3 b3 d2 a2 hUX (HFM.out.an (hX.block _ HFM.out.lt)) hrX (e1.below hX e1.lt) (e2.below hX (Z5 _)) (e3.an _ _ _ (fun b hb=>hX.block b (e3.mem _ _ _ b hb).2)) hok2 (by omega) f1
     |false=>exact xy A W h hO hmb U X rb fb B c3 gi (i * 13) gb (i * 7) cv g3 bs3 b3 d2 a2 hUX (HFM.out.an (hX.block _ HFM.out.lt)) hrX (e1.below hX e1.lt) (e2.below hX (Z5 _)) (e3.an _ _ _ (fun b hb=>hX.block b (e3.mem _ _ _ b hb).2)) hok2 (by omega) f1
    ·rw[hdr]at hr1 hfd;obtain⟨cb,gc,capc,bsc,hxc,hoc,hec,hrow,hnx⟩:=Tm.bu.wh hoi HEN.out hdr;obtain⟨a2,b2,p1,p2,f1,f2,f3⟩:=FI hr1;refine⟨a2,b2,fun X hX=> ?_,by rw[hnx,hd2];exact f2,f3⟩;have hUX:Below U.heap.size U X:=HU.out.trans (hX.mono HU.out.size);exact tt A W bd (HW.out i a c bd r hdr) _ gb (i * 7) gi (i * 13) a d2 a2 U X rb fb B c3 capc gc g3 bsc bs3 b3 hUX (HFM.out.an (hX.block _ HFM.out.lt)) p1 p2 f1 hoc hec (hrow.below hUX hrow.lt) (e1.below hX e1.lt) hok2.2 (by unfold Nd.tot at ht2;omega) (e2.below hX (Z5 _)) (e3.an _ _ _ (fun b hb=>hX.block b (e3.mem _ _ _ b hb).2))
   obtain⟨a2,b2,hC,f2,f3⟩:=key;have HC:=hid (hC wr.drew HB.out.drew);have HQ2:=hid (show aF W (l.drop (i+1)) (ks.drop (i+1))=some b2∧u=(acc++a2)++b2 from⟨f2,by rw[hr2,f3,List.append_assoc]⟩);have hlen:(acc++a2).length≤u.length:=by rw[HQ2.out.2];simp
   have hss:=nV (a:=acc) (b:=a2) (by rw[← Z7];have:=HUL.out;omega);have hs2:¬(9223372036854775807 < acc.length+a2.length):=by rw[← Z7];have:=HUL.out;omega
   have hs3:decide (9223372036854775807 < acc.length+a2.length)=false:=Y9 hs2;have HL9:=hid (show n≤100000 from hlen0);clear hin hi hd1 hd2 hko e1 e2 e3 hoi hr1 hr2 f2 f3 ht2 hok2 hlen hC hfd hkt;go_wp2_with fail;go_region_held3 (fun _=>True) (trivial)
    (first
     |(go_at_call 96;(refine HC.out.mono ?_);(rintro e w5 ⟨hb5,rfl⟩)))
   all_goals
    have HB5:=hid (show Below w.heap.size w w5 from HB.out.trans (Below.trans (Y4 _ _).drew (hb5.mono HB.out.size)));clear hb5;go_wp2_with fail;go_roundw
    case rel=>exact⟨i+1,acc++a2,by first|rfl|rw[gN],by first|rfl|rw[az HLT.out HL9.out],by have:=HLT.out;omega,HB5,hid ⟨b2,HQ2.out⟩⟩
    case measure=>(try rw[az HLT.out HL9.out]);simp only[intOf];have:=HLT.out;omega
  ·have q1:decide ((i:Int) < (n:Int))=false:=Y9 (by omega);have q2:decide (i < n)=false:=Y9 hin;have hEQ:i=n:=by omega
   have HEQ:=hid hEQ;clear hin hi hEQ;go_wp2_with fail;go_ret;refine⟨HB.out,?_⟩;obtain⟨rest,hr1,hr2⟩:=HQ.out;have e1:ks.drop i= .nil:=by rw[HEQ.out,HN.out,HLL.out];exact ks.df
   have e2:l.drop i= .nil:=by rw[HEQ.out,HN.out];exact Tm.df l
   rw[e1,e2]at hr1;have:rest=[]:=by injection hr1 with h;exact h.symm
   rw[hr2,this,List.append_nil];rfl
theorem jK(A:List Tm.Ty)(W:Wri)(hWl:fs W)(ts:List Tm.Wd)(hS:∀nm∈ts,uP A W nm):∀(n:Nat) (l:Tm.Its),l.sz < n→Tm.bG l→kV ts l→l.sz≤100000→kX A W l
 |0,l,h,_,_,_=>absurd h (Nat.not_lt_zero _)
 |n+1,l,h,hF,hR,hz=>by
  refine uQ A W hWl l hF (Nat.le_trans (Tm.lA l) hz) (fun i a c b r hd=> ?_) (fun i hh r t hd hk=> ?_)
  ·have h1:=Tm.dh i l hF;have h2:=dN i l hR;have h3:=Tm.gT i l;rw[hd]at h1 h2 h3;have h4:b.sz+1≤(Tm.Its.when a c b r).sz:=by simp only[Tm.Its.sz];omega
   exact jK A W hWl ts hS n b (by omega) h1.2.1 h2.1 (by omega)
  ·have h2:=dN i l hR;rw[hd]at h2;exact hS t (h2.1 t hk)
theorem qK(A:List Tm.Ty)(hA:∀t∈A,Tm.bg t∧Tm.Its.sz t.items≤100000):∀(r:List Tm.Ty),(∀t∈r,t∈A)→gB r→∀nm∈names r,uP A (wrS r) nm
 |[],_,_,nm,h=>by cases h
 |t::r,hm,hc,nm,h=>by
  obtain⟨c1,c2,c3⟩:=hc;have ih:=qK A hA r (fun t' ht'=>hm t' (List.mem_cons_of_mem _ ht')) c3;have htA:=hm t (by simp);obtain⟨f1,f2⟩:=hA t htA
  by_cases hn:t.name=nm
  ·refine⟨t,htA,hn,by have:=kr f1.1.2;omega,wrS r,fun ks=> ?_,jK A (wrS r) (nU r) (names r) ih _ t.items (Nat.lt_succ_self _) f1.2 c2 f2⟩;show(if t.name=t.name then _ else _)=_;rw[if_pos rfl]
  ·have hr:nm∈names r:=by
    rcases List.mem_cons.1 h with h|h
    ·exact absurd h.symm hn
    ·exact h
   obtain⟨t2,g1,g2,g3,W',g4,g5⟩:=ih nm hr;refine⟨t2,g1,g2,g3,W',fun ks=> ?_,g5⟩;show(if t.name=t2.name then _ else _)=_;rw[if_neg (by rw[g2];exact hn)];exact g4 ks
theorem xz:∀{l:List Tm.Ty} {nm:Tm.Wd} (_:nm∉names l) (ks:Nds),wrS l nm ks=none
 |[],_,_,_=>rfl
 |t::r,nm,h,ks=>by
  show(if t.name=nm then _ else _)=_;rw[if_neg (fun e=>h (by rw[← e];simp[names]))];exact xz (fun h2=>h (by simp only[names,List.map_cons,List.mem_cons];exact .inr h2)) ks
theorem nW{l:List Tm.Ty}{root:Tm.Wd}{d:Nd}{u:Tm.Wd}(h:aX (wrS l) (cm root) d=some u):root∈names l:=by
 by_cases hm:root∈names l
 ·exact hm
 ·obtain⟨_,_,h3⟩:=iB h;rw[show(cm root).k= .struct root from rfl]at h3;have h4:wrS l root d.kids=some u:=h3;rw[xz hm]at h4;cases h4
structure WcS(U W:World)(rb fb B:Nat)(A:List Tm.Ty)(root:Tm.Wd)(d:Nd)(gk:Option Addr)(gcap:Nat)(vs:List Value)(b1:List Nat)(c0 c1 cn cs:Nat):Prop where
 bel:Below U.heap.size U W
 form:bV U W rb fb A
 r0:ae W c0 0 59 [.map (some fb)]
 r1:ae W c1 0 9 [.string (aa root)]
 r2:ae W cn 0 28 (ab d.name d.kind d.at_ d.size d.val d.text (.slice gk d.kids.len gcap))
 r3:ae W cs 0 9 [.string {data:= #[]}]
 own:ak W B 28 7 gk d.kids.len gcap vs
 enc:aU W B d.kids b1 vs
theorem WcS.up{U W W':World}{rb fb B:Nat}{A:List Tm.Ty}{root:Tm.Wd}{d:Nd}{gk:Option Addr}{gcap:Nat}{vs:List Value}{b1:List Nat}{c0 c1 cn cs:Nat}(h:WcS U W rb fb B A root d gk gcap vs b1 c0 c1 cn cs)(hb:Below W.heap.size W W'):WcS U W' rb fb B A root d gk gcap vs b1 c0 c1 cn cs:=
 ⟨h.bel.trans (hb.mono h.bel.size),h.form.an (hb.block _ h.form.lt),h.r0.below hb h.r0.lt,h.r1.below hb h.r1.lt,h.r2.below hb h.r2.lt,h.r3.below hb h.r3.lt,h.own.below hb (Z5 _),h.enc.an _ _ _ (fun b hbl=>hb.block b (h.enc.mem _ _ _ b hbl).2)⟩
theorem zP(U W:World)(rb fb B:Nat)(A:List Tm.Ty)(root u:Tm.Wd)(d:Nd)(gk:Option Addr)(gcap:Nat)(vs:List Value)(b1:List Nat)(c0 c1 cn cs:Nat)(h:WcS U W rb fb B A root d gk gcap vs b1 c0 c1 cn cs)(hsub:uP A (wrS A.reverse) root)(ho:aX (wrS A.reverse) (cm root) d=some u)(hok:d.ok)(htot:d.tot≤1000000):
  Calls Tryz.prog 32 #[.pointer (some ⟨c0,0,none⟩),.pointer (some ⟨c1,0,none⟩),.pointer (some ⟨cn,0,none⟩),.pointer (some ⟨cs,0,none⟩)] W fun e w1=>e= .returned (.tuple #[])∧∃w0,Below W.heap.size W w0∧w1=w0.setCell ⟨cs,0,none⟩ (.string (aa u)):=by
 obtain⟨t,ht,hnm,htl,W',hW,hI⟩:=hsub;subst hnm;have k0:=h.r0.cell0 0 (by simp);have k1:=h.r1.cell0 0 (by simp);simp only[Z0]at k0 k1;obtain⟨V,hV⟩:∃V,V=W.alloc (.cells #[.int .i64 3,.int .i64 0,.string (aa t.name),.string (aa t.name),.int .i64 0,.int .i64 0,.bool false,.bool false,.pointer none,.int .i64 0,.string {data:= #[]},.string {data:= #[]},.slice none 0 0] 70):=⟨_,rfl⟩;have hrow:ae V W.heap.size 0 70 (Tm.ag (cm t.name) (.pointer none)):=by rw[hV];exact ae.new W _ _
 have hbV:Below W.heap.size W V:=by rw[hV];exact(Y4 _ _).alloc (Z5 _) _
 have hV2:=h.up hbV;have hC:=oL A (wrS A.reverse) W' t ht hW hI htl (.pointer none) cn 0 W.heap.size 0 (cm t.name) d u U V rb fb B gcap gk vs b1 hV2.bel hV2.form rfl ho hrow hV2.r2 hok.2 (by unfold Nd.tot at htot;omega) hV2.own hV2.enc;have HC:=hid hC;have HV:=hid hV;have HBV:=hid hbV;have HR3:=hid hV2.r3;clear h hC hrow hV hbV hV2 hW hI ho hok htot;go_enter Tryz.func32,Tryz.ntmps32;go_wp2_with fail;rw[← HV.out];refine HC.out.mono ?_;rintro e w2 ⟨hb2,rfl⟩;have hr3:=HR3.out.below hb2 HR3.out.lt;have y0:=hr3.cell0 0 (by simp);have z0:=hr3.frozen0 0 (by simp);simp only[Z0]at y0;have HB2:=hid (HBV.out.trans (hb2.mono HBV.out.size));clear hb2 hr3 k0 k1;go_wp2_with fail;refine bodyPost_end (results_none rfl _ _ _) rfl ?_;exact⟨rfl,w2,HB2.out,rfl⟩
theorem lG(tys:List Tm.Ty)(root u:Tm.Wd)(d:Nd)(w:World)(rb cap B Bn:Nat)(a:Option Addr)(vs:List Value)(v:Value)(bl:List Nat)(ho:ak w B 97 3 a tys.length cap vs)(he:Tm.cI w rb tys vs)(hF:∀t∈tys,Tm.bg t∧Tm.Its.sz t.items≤100000)(hn:tys.length≤100)(hch:gB tys.reverse)
  (hr:root.length≤200000000000000)(hd:NdV w Bn bl d v)(hok:d.ok)(htot:d.tot≤1000000)(hw:aX (wrS tys.reverse) (cm root) d=some u):
  Calls Tryz.prog 10 #[.slice a tys.length cap,.string (aa root),v] w fun e w'=>Below w.heap.size w w'∧e= .returned (.tuple #[.string (aa u),.nilIface]):=by
 have hnd:(tys.map (·.name)).Nodup:=by
  have:=gV hch;rw[List.map_reverse]at this;exact(List.pairwise_reverse.1 this).imp (fun h=>Ne.symm h)
 have hfo:=fun W (hW:Below w.heap.size w W)=>lF tys w W hW rb cap B a vs ho he (fun t ht=>(hF t ht).1) hn hnd
 have hroot:root∈names tys:=(nS tys root).1 (nW hw);have hsub:=qK tys hF tys.reverse (fun t ht=>List.mem_reverse.1 ht) hch root (nW hw);obtain⟨n,hn'⟩:∃n,n=tys.length:=⟨_,rfl⟩;rw[← hn']at hfo⊢;obtain⟨gk,gcap,ks,b1,hv,hbl,hkO,hkE⟩:=hd;have hv2:v= .agg #[.string (aa d.name),.int .i64 (d.kind:Nat),.int .i64 (d.at_:Nat),.int .i64 (d.size:Nat),.int .i64 d.val,.string (aa d.text),.slice gk d.kids.len gcap]:=hv;subst hv2;obtain⟨W2,hW2⟩:∃W2,W2=(w.alloc (.cells #[.string (aa root)] 9)).alloc (.cells #[.string (aa d.name),.int .i64 (d.kind:Nat),.int .i64 (d.at_:Nat),.int .i64 (d.size:Nat),.int .i64 d.val,.string (aa d.text),.slice gk d.kids.len gcap] 28):=⟨_,rfl⟩;have hb2:Below w.heap.size w W2:=by rw[hW2];exact((Y4 _ _).alloc (Z5 _) _).alloc (by simp) _
 have h20:ae W2 w.heap.size 0 9 [.string (aa root)]:=by rw[hW2];exact(ae.new w _ _).alloc _
 have h21:ae W2 (w.heap.size+1) 0 28 (ab d.name d.kind d.at_ d.size d.val d.text (.slice gk d.kids.len gcap)):=by rw[hW2];exact ae.iI _ _ (by simp) _ _
 have HFO:=hid (hfo W2 hb2);have HW2:=hid hW2;have H2:=hid (And.intro hb2 (And.intro h20 h21));have HKK:=hid (And.intro hkO hkE);have HROOT:=hid hroot;have HSUB:=hid hsub;have HOK:=hid (And.intro hok htot);have HWW:=hid hw;clear hfo ho he hn' hW2 hb2 h20 h21 hkO hkE hroot hsub hok htot hw hbl hnd hv;go_enter Tryz.func10,Tryz.ntmps10;go_wp2_with fail;rw[← HW2.out];refine HFO.out.mono ?_;rintro e w4 ⟨rfl,hb4,hf4⟩;have hb24:Below w.heap.size w w4:=H2.out.1.trans (hb4.mono H2.out.1.size);obtain⟨lv,hlk⟩:=hf4.look_ok hr;have q1:decide (root∈names tys)=true:=Z9 HROOT.out;rw[q1]at hlk;obtain⟨V,hV⟩:∃V,V=w4.alloc (.cells #[.map (some W2.heap.size)] 59):=⟨_,rfl⟩;have hbV:Below w4.heap.size w4 V:=by rw[hV];exact(Y4 _ _).alloc (Z5 _) _
 have hl0:=hlk V (hbV.block _ hf4.lt);have hr0:ae V w4.heap.size 0 59 [.map (some W2.heap.size)]:=by rw[hV];exact ae.new w4 _ _
 have hr1:ae V w.heap.size 0 9 [.string (aa root)]:=(H2.out.2.1.below hb4 H2.out.2.1.lt).below hbV (Nat.lt_of_lt_of_le H2.out.2.1.lt hb4.size);have hr2:ae V (w.heap.size+1) 0 28 _:=(H2.out.2.2.below hb4 H2.out.2.2.lt).below hbV (Nat.lt_of_lt_of_le H2.out.2.2.lt hb4.size);have hfV:=hf4.an (hbV.block _ hf4.lt);have hbwV:Below w.heap.size w V:=hb24.trans (hbV.mono hb24.size);have c0:=hr0.cell0 0 (by simp);have c1:=hr1.cell0 0 (by simp);simp only[Z0]at c0 c1;rw[hV]at c0 c1 hl0;have HR:=hid (And.intro hr0 (And.intro hr1 (And.intro hr2 (And.intro hfV hbwV))));have HV:=hid hV;clear hb4 hf4 hb24 hlk hbV hr0 hr1 hr2 hfV hbwV hV;go_wp2_with fail;rw[← HV.out];obtain⟨hr0,hr1,hr2,hfV,hbwV⟩:=HR.out;have hVs:V.heap.size=w4.heap.size+1:=by rw[HV.out];simp
 obtain⟨V1,hV1⟩:∃V1,V1=V.alloc (.cells #[.string {data:= #[]}] 9):=⟨_,rfl⟩;rw[← hV1];have hbV1:Below V.heap.size V V1:=by rw[hV1];exact(Y4 _ _).alloc (Z5 _) _
 have hcs:ae V1 (w4.heap.size+1) 0 9 [.string {data:= #[]}]:=by rw[hV1];exact ae.iI _ _ hVs.symm _ _
 have hb1:Below w.heap.size w V1:=hbwV.trans (hbV1.mono hbwV.size);have hWC:WcS w V1 rb W2.heap.size Bn tys root d gk gcap ks b1 w4.heap.size w.heap.size (w.heap.size+1) (w4.heap.size+1):=⟨hb1,hfV.an (hbV1.block _ hfV.lt),hr0.below hbV1 hr0.lt,hr1.below hbV1 hr1.lt,hr2.below hbV1 hr2.lt,hcs,HKK.out.1.below hb1 (Z5 _),HKK.out.2.an _ _ _ (fun b hb=>hb1.block b (HKK.out.2.mem _ _ _ b hb).2)⟩;have hWC2:=hWC.up ((Y4 V1.heap.size V1).alloc (Z5 _) (.cells #[.nilIface] 30));have hcall:=zP w _ rb W2.heap.size Bn tys root u d gk gcap ks b1 _ _ _ _ hWC2 HSUB.out HWW.out HOK.out.1 HOK.out.2;have hcsl:=hcs.lt;have hCL:Calls Tryz.prog 32 #[.pointer (some ⟨w4.heap.size,0,none⟩),.pointer (some ⟨w.heap.size,0,none⟩),.pointer (some ⟨w.heap.size+1,0,none⟩),.pointer (some ⟨w4.heap.size+1,0,none⟩)] (V1.alloc (.cells #[.nilIface] 30))
   (dA V1 (fun w1=>∃w0,Below (V1.alloc (.cells #[.nilIface] 30)).heap.size (V1.alloc (.cells #[.nilIface] 30)) w0∧w1=w0.setCell ⟨w4.heap.size+1,0,none⟩ (.string (aa u))) (fun _=>False)):=by
  refine hcall.mono ?_;rintro e w1 ⟨he,w0,hb0,rfl⟩;exact⟨(Below.heap_setCell w0 ⟨w4.heap.size+1,0,none⟩ _ V1.heap.size (show V1.heap.size≠w4.heap.size+1 by omega)).trans (hb0.block _ (by simp)),.inl ⟨he,w0,hb0,rfl⟩⟩
 have HCA:=hid (uM _ _ _ _ V1 _ _ hCL);have HB1:=hid hb1;have HCS:=hid hcs;have HSZ:=hid (show w.heap.size≤w4.heap.size from by have:=hr0.lt;have h2:=hbwV.size;have h3:=hr1.lt;have h4:=hr2.lt;omega);clear hr0 hr1 hr2 hfV hbwV hV1 hbV1 hcs hb1 hWC hWC2 hcall hcsl hCL c0 c1 hl0 q1 hVs;refine HCA.out.mono ?_;unfold fT;rintro e w' (⟨rfl,w1,⟨w0,hb0,rfl⟩,rfl⟩|⟨t,v,rfl,w1,o,hfalse,rfl⟩)
 ·have hrc:ae (w0.setCell ⟨w4.heap.size+1,0,none⟩ (.string (aa u))) (w4.heap.size+1) 0 9 [.string (aa u)]:=((HCS.out.alloc _).below hb0 (by have:=HCS.out.lt;simp;omega)).ax 0 (by simp) _;have hne:w4.heap.size+1≠V1.heap.size:=by have:=HCS.out.lt;omega
  have hrd:=hrc.far (p:=⟨V1.heap.size,0,none⟩) hne .nilIface;have cc:=hrd.cell0 0 (by simp);simp only[Z0]at cc;have hbf:Below w.heap.size w ((w0.setCell ⟨w4.heap.size+1,0,none⟩ (.string (aa u))).setCell ⟨V1.heap.size,0,none⟩ .nilIface):=by
   have e1:Below w.heap.size w w0:=(HB1.out.alloc HB1.out.size _).trans (hb0.mono (by have:=HB1.out.size;simp;omega));exact(e1.setCell (p:=⟨w4.heap.size+1,0,none⟩) (show w.heap.size≤w4.heap.size+1 by have:=HSZ.out;omega) _).setCell (p:=⟨V1.heap.size,0,none⟩) HB1.out.size _
  have HBF:=hid hbf;clear hb0 hrc hrd hbf hne;go_wp2_with fail;go_ret2;exact⟨HBF.out,rfl⟩
 ·exact hfalse.elim
theorem xA(c0 c1 c2 c3:Value)(w:World)(R B:World→Prop)(hf:Calls Tryz.prog 142 #[c0,c1,c2,c3] (w.alloc (.cells #[.nilIface] 30)) (dA w R B)):
  Calls Tryz.prog 28 #[.func (.func 142) #[] #[c0,c1,c2,c3]] w (fT w R B):=by
 have HF:=hid hf;clear hf
 go_enter_defers Tryz.func28,Tryz.ntmps28
 go_wp2_with fail;refine HF.out.mono ?_;unfold dA;rintro e w1 ⟨hk,h⟩;have hrow:ae (w.alloc (.cells #[.nilIface] 30)) w.heap.size 0 30 [.nilIface]:=ae.new w 30 #[.nilIface];have hrow1:=hrow.of_heap hk;have hc1:=hrow1.cell0 0 (by simp);have hf1:=hrow1.frozen0 0 (by simp);simp only[Z0]at hc1;have hl1:=hrow1.lt;clear hrow hrow1 hk;rcases h with⟨rfl,hR⟩|⟨⟨t,v,he⟩,hB⟩
 ·have HR:=hid hR;have hc4:(w1.setCell ⟨w.heap.size,0,none⟩ .nilIface).cell? ⟨w.heap.size,0,none⟩=some .nilIface:=World.cell?_setCell_same' _ _ _ (by rw[hc1];rfl);clear hR;go_wp2_with fail;refine leaves_cons (f:=59) (args:= #[.pointer (some ⟨w.heap.size,0,none⟩)]) (by simp) (by simp[go_sem]) ?_;refine(jI w.heap.size _).mono ?_;rintro e u' w5 ⟨rfl,rfl,rfl⟩;simp[Leaves,settle,results,Tryz.results28,go_sem,hc4];exact .inl ⟨rfl,_,HR.out,rfl⟩
 ·unfold bC at he;subst he;have HB:=hid hB;clear hB;go_wp2_with fail;refine leaves_cons (f:=59) (args:= #[.pointer (some ⟨w.heap.size,0,none⟩)]) (by simp) (by simp[go_sem]) ?_;refine(ic w.heap.size .nilIface t v [] _ hc1 hf1 hl1).mono ?_;rintro e u' w5 ⟨rfl,rfl,o,rfl⟩;have hc5:(w1.setCell ⟨w.heap.size,0,none⟩ (.iface t v)).cell? ⟨w.heap.size,0,none⟩=some (.iface t v):=World.cell?_setCell_same' _ _ _ (by rw[hc1];rfl);have hb6:=(Y4 (w1.setCell ⟨w.heap.size,0,none⟩ (.iface t v)).heap.size (w1.setCell ⟨w.heap.size,0,none⟩ (.iface t v))).alloc (Z5 _) o;have hc6:((w1.setCell ⟨w.heap.size,0,none⟩ (.iface t v)).alloc o).cell? ⟨w.heap.size,0,none⟩=some (.iface t v):=(hb6.cell (p:=⟨w.heap.size,0,none⟩) (by simpa using hl1)).trans hc5;simp[Leaves,settle,results,Tryz.results28,go_sem,hc6];exact .inr ⟨t,v,rfl,_,o,HB.out,rfl⟩
structure PcS(w W:World)(a:Option Addr)(n cap:Nat)(px pn:Addr)(c0 c1 c2 c3:Nat):Prop where
 bel:Below w.heap.size w W
 r0:ae W c0 0 23 [.slice a n cap]
 r1:ae W c1 0 67 [.pointer (some px)]
 r2:ae W c2 0 73 [.pointer (some pn)]
 r3:ae W c3 0 9 [.string {data:= #[]}]
 n0:c0 < c3
 n1:c1 < c3
 n2:c2 < c3
theorem PcS.up{w W W':World}{a:Option Addr}{n cap:Nat}{px pn:Addr}{c0 c1 c2 c3:Nat}(h:PcS w W a n cap px pn c0 c1 c2 c3)(hb:Below W.heap.size W W'):PcS w W' a n cap px pn c0 c1 c2 c3:=
 ⟨h.bel.trans (hb.mono h.bel.size),h.r0.below hb h.r0.lt,h.r1.below hb h.r1.lt,h.r2.below hb h.r2.lt,h.r3.below hb h.r3.lt,h.n0,h.n1,h.n2⟩
theorem Dy(tys:List Tm.Ty)(u:Tm.Wd)(U w W:World)(rb cap B:Nat)(a:Option Addr)(vs:List Value)(hU:Below U.heap.size U w)(ho:ak U B 97 3 a tys.length cap vs)(he:Tm.cI U rb tys vs)(hF:∀t∈tys,Tm.bg t)(hn:tys.length≤100)(hnd:(tys.map (·.name)).Nodup)
  (px pn:Addr)(hp:∀W fb,Below w.heap.size w W→bV U W rb fb tys→Calls Tryz.prog 96 #[.map (some fb),.pointer (some px),.pointer (some pn)] W (di W u))(c0 c1 c2 c3:Nat)(h:PcS w W a tys.length cap px pn c0 c1 c2 c3):
  Calls Tryz.prog 142 #[.pointer (some ⟨c0,0,none⟩),.pointer (some ⟨c1,0,none⟩),.pointer (some ⟨c2,0,none⟩),.pointer (some ⟨c3,0,none⟩)] W fun e w1=>e= .returned (.tuple #[])∧∃w0,Below W.heap.size W w0∧w1=w0.setCell ⟨c3,0,none⟩ (.string (aa u)):=by
 have HFO:=hid (fun V (hV:Below w.heap.size w V)=>lF tys U V (hU.trans (hV.mono hU.size)) rb cap B a vs ho he hF hn hnd);have HP:=hid hp;obtain⟨n,hn'⟩:∃n,n=tys.length:=⟨_,rfl⟩;rw[← hn']at HFO h;have hSS:∀V,Below W.heap.size W V→V.cell? ⟨c0,0,none⟩=some (.slice a n cap)∧V.cell? ⟨c1,0,none⟩=some (.pointer (some px))∧V.cell? ⟨c2,0,none⟩=some (.pointer (some pn)):=by
  intro V hb;have h2:=h.up hb;have k0:=h2.r0.cell0 0 (by simp);have k1:=h2.r1.cell0 0 (by simp);have k2:=h2.r2.cell0 0 (by simp);simp only[Z0]at k0 k1 k2;exact⟨k0,k1,k2⟩
 have HPC:=hid (fun V (hV:Below W.heap.size W V)=>h.up hV);have hST:∀V v,Below W.heap.size W V→(V.setCell ⟨c3,0,none⟩ v).cell? ⟨c0,0,none⟩=some (.slice a n cap)∧(V.setCell ⟨c3,0,none⟩ v).cell? ⟨c1,0,none⟩=some (.pointer (some px))∧(V.setCell ⟨c3,0,none⟩ v).cell? ⟨c2,0,none⟩=some (.pointer (some pn)):=by
  intro V v hb;have h2:=h.up hb;have k0:=(h2.r0.far (p:=⟨c3,0,none⟩) (Nat.ne_of_lt h.n0) v).cell0 0 (by simp);have k1:=(h2.r1.far (p:=⟨c3,0,none⟩) (Nat.ne_of_lt h.n1) v).cell0 0 (by simp);have k2:=(h2.r2.far (p:=⟨c3,0,none⟩) (Nat.ne_of_lt h.n2) v).cell0 0 (by simp);simp only[Z0]at k0 k1 k2;exact⟨k0,k1,k2⟩
 have HST:=hid hST;have hS1:=hSS W.drew (Y4 _ _).drew;have HSS:=hid hSS;clear hU ho he hF hn hnd hp h hn' hSS hST;go_enter Tryz.func142,Tryz.ntmps142;go_wp2_with fail;go_region_held3 (fun V=>V.cell? ⟨c0,0,none⟩=some (.slice a n cap)∧V.cell? ⟨c1,0,none⟩=some (.pointer (some px))∧V.cell? ⟨c2,0,none⟩=some (.pointer (some pn)))
  (first
   |exact hS1
   |assumption)
  (first
   |(go_at_call 27;(with_reducible refine(HFO.out _ ?_).mono ?_);(next=>exact(HPC.out _ (Y4 W.heap.size W).drew).bel);(rintro e w2 ⟨rfl,hb2,hf2⟩);(have HB2:=hid (Below.trans (Y4 W.heap.size W).drew hb2));(have hS2:=HSS.out w2 HB2.out))
   |(go_at_call 96;(with_reducible refine(HP.out _ _ ?_ ?_).mono ?_);(next=>exact(HPC.out _ HB2.out).bel);(next=>exact hf2);(rintro e w3 ⟨hb3,rfl⟩);(have HB3:=hid (HB2.out.trans (hb3.mono HB2.out.size)));(have hS3:=HSS.out w3 HB3.out);(have hS4:=HST.out w3 (.string (aa u)) HB3.out);(have y0:=(HPC.out _ HB3.out).r3.cell0 0 (by simp));(have z0:=(HPC.out _ HB3.out).r3.frozen0 0 (by simp));(simp only[Z0]at y0)))
 all_goals
  go_wp2_with fail;refine bodyPost_end (results_none rfl _ _ _) rfl ?_;exact⟨rfl,w3,HB3.out,rfl⟩
theorem FJ(tys:List Tm.Ty)(u:Tm.Wd)(U w:World)(rb cap B:Nat)(a:Option Addr)(vs:List Value)(hU:Below U.heap.size U w)(ho:ak U B 97 3 a tys.length cap vs)(he:Tm.cI U rb tys vs)(hF:∀t∈tys,Tm.bg t)(hn:tys.length≤100)(hnd:(tys.map (·.name)).Nodup)
  (px pn:Addr)(hp:∀W fb,Below w.heap.size w W→bV U W rb fb tys→Calls Tryz.prog 96 #[.map (some fb),.pointer (some px),.pointer (some pn)] W (di W u)):
  Calls Tryz.prog 125 #[.slice a tys.length cap,.pointer (some px),.pointer (some pn)] w fun e w'=>Below w.heap.size w w'∧e= .returned (.tuple #[.string (aa u),.nilIface]):=by
 obtain⟨V1,hV1⟩:∃V1,V1=((((w.alloc (.cells #[.slice a tys.length cap] 23)).alloc (.cells #[.pointer (some px)] 67)).alloc (.cells #[.pointer (some pn)] 73)).alloc (.cells #[.string {data:= #[]}] 9)):=⟨_,rfl⟩;have hb1:Below w.heap.size w V1:=by rw[hV1];exact((((Y4 _ _).alloc (Z5 _) _).alloc (by simp) _).alloc (by simp;omega) _).alloc (by simp;omega) _
 have hPC:PcS w V1 a tys.length cap px pn w.heap.size (w.heap.size+1) (w.heap.size+2) (w.heap.size+3):=by
  refine⟨hb1,?_,?_,?_,?_,by omega,by omega,by omega⟩ <;> rw[hV1]
  ·exact(((ae.new w _ _).alloc _).alloc _).alloc _
  ·exact((ae.iI _ _ (by simp) _ _).alloc _).alloc _
  ·exact(ae.iI _ _ (by simp) _ _).alloc _
  ·exact ae.iI _ _ (by simp) _ _
 have hPC2:=hPC.up ((Y4 V1.heap.size V1).alloc (Z5 _) (.cells #[.nilIface] 30));have hcall:=Dy tys u U w _ rb cap B a vs hU ho he hF hn hnd px pn hp _ _ _ _ hPC2;have hs1:V1.heap.size=w.heap.size+4:=by rw[hV1];simp
 have hCL:Calls Tryz.prog 142 #[.pointer (some ⟨w.heap.size,0,none⟩),.pointer (some ⟨w.heap.size+1,0,none⟩),.pointer (some ⟨w.heap.size+2,0,none⟩),.pointer (some ⟨w.heap.size+3,0,none⟩)] (V1.alloc (.cells #[.nilIface] 30))
   (dA V1 (fun w1=>∃w0,Below (V1.alloc (.cells #[.nilIface] 30)).heap.size (V1.alloc (.cells #[.nilIface] 30)) w0∧w1=w0.setCell ⟨w.heap.size+3,0,none⟩ (.string (aa u))) (fun _=>False)):=by
  refine hcall.mono ?_;rintro e w1 ⟨he,w0,hb0,rfl⟩;exact⟨(Below.heap_setCell w0 ⟨w.heap.size+3,0,none⟩ _ V1.heap.size (show V1.heap.size≠w.heap.size+3 by omega)).trans (hb0.block _ (by simp)),.inl ⟨he,w0,hb0,rfl⟩⟩
 have HCA:=hid (xA _ _ _ _ V1 _ _ hCL);have HB1:=hid hb1;have HCS:=hid hPC.r3;have HS1:=hid hs1;have HV1:=hid hV1;obtain⟨n,hn'⟩:∃n,n=tys.length:=⟨_,rfl⟩;rw[← hn']at HV1⊢;clear hn' hU ho he hF hn hnd hp hV1 hb1 hPC hPC2 hcall hs1 hCL;go_enter Tryz.func125,Tryz.ntmps125;go_wp2_with fail;rw[← HV1.out];refine HCA.out.mono ?_;unfold fT;rintro e w' (⟨rfl,w1,⟨w0,hb0,rfl⟩,rfl⟩|⟨t,v,rfl,w1,o,hfalse,rfl⟩)
 ·have hrc:ae (w0.setCell ⟨w.heap.size+3,0,none⟩ (.string (aa u))) (w.heap.size+3) 0 9 [.string (aa u)]:=((HCS.out.alloc _).below hb0 (by have:=HCS.out.lt;simp;omega)).ax 0 (by simp) _;have hne:w.heap.size+3≠V1.heap.size:=by have:=HS1.out;omega
  have hrd:=hrc.far (p:=⟨V1.heap.size,0,none⟩) hne .nilIface;have cc:=hrd.cell0 0 (by simp);simp only[Z0]at cc;have hbf:Below w.heap.size w ((w0.setCell ⟨w.heap.size+3,0,none⟩ (.string (aa u))).setCell ⟨V1.heap.size,0,none⟩ .nilIface):=by
   have e1:Below w.heap.size w w0:=(HB1.out.alloc HB1.out.size _).trans (hb0.mono (by have:=HB1.out.size;simp;omega));exact(e1.setCell (p:=⟨w.heap.size+3,0,none⟩) (show w.heap.size≤w.heap.size+3 by omega) _).setCell (p:=⟨V1.heap.size,0,none⟩) HB1.out.size _
  have HBF:=hid hbf;clear hb0 hrc hrd hbf hne;go_wp2_with fail;go_ret2;exact⟨HBF.out,rfl⟩
 ·exact hfalse.elim
end
end Go.Proofs.YtlomecfhobehnaaGreatDoor
