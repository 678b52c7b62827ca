/-
Texts of this proof,one behind the other. No conditions.
-/
import Derived.Test.YtgbiopfghdilnaaGreatDoorKd
import Derived.Test.YtgbiopfghdilnaaGreatDoorKdb
import Derived.Test.YtgbiopfghdilnaaGreatDoorKk
open Go.Proofs.YtgbiopfghdilnaaGreatDoor.Hp renaming set→Ka,aAN→Kb,le_refl→Kc,le_trans→Kd
open List renaming range→Ke,getD_eq_getElem?_getD→Kf,mem_cons→Kg,nodup_cons→Kh,mem_map→Ki,length_append→Kj,length_eraseIdx_of_lt→Kk,map_cons→Ko,getElem?_eq_getElem→Kp,mem_append→Kq,map_append→Ks,length_range→Ku,getElem_mem→Kx,map_nil→Ky,length→Kz
open Nat renaming le_refl→Km,zero_le→Kv,lt_succ_self→Kw,le_succ→KA
open Prod renaming fst→Kt
open Nat renaming reduceAdd→jA,reduceSub→jB,reduceLT→jC,reduceLeDiff→jD,reduceEqDiff→jE
open Int renaming reduceToNat→jF,toNat_natCast→jG,natCast_add→jH,natCast_one→jI,natCast_zero→jJ
open List renaming length_map→jK,length_cons→jL,length_nil→jM,replicate_succ→jN,replicate_zero→jO,cons_append→jP,nil_append→jQ
set_option linter.unusedSimpArgs false
set_option linter.unusedVariables false
set_option linter.unusedSectionVars false
set_option maxHeartbeats 8000000
namespace Go.Proofs.YtgbiopfghdilnaaGreatDoor
open Go.RowKit Go.Sort Go.Shelf
def BB{α:Type}(P:Program)(gf:Nat)(caps:List V)(hb:Hp)(e:α→List V)(ok:List α→α→Prop)(fin:List α→Prop):Prop:=
 ∀(yn n0:Nat) (J:Hp→List α→Hp→Nat→Prop) (D:Hp→Nat→Prop),
  (∀F i h nx,J F i h nx→F.le h)→(∀F i h nx nx',J F i h nx→nx≤nx'→J F i h nx')→
  (∀F i h nx b,J F i h nx→aW h nx→n0≤nx→J (F.set nx b) i (h.set nx b) (nx+1))→
  (∀F i h nx n b b',J F i h nx→n0≤n→F n=some b→J (F.set n b') i (h.set n b') nx)→(∀h nx nx',D h nx→nx≤nx'→D h nx')→
  (∀F i x,ok i x→∀h nx,J F i h nx→aW h nx→n0≤nx→cY P yn (e x) h nx fun v h' nx'=>(v= .bool true∧J F (i++[x]) h' nx')∨(v= .bool false∧D h' nx'))→
  ∀F h,J F [] h n0→hb.has F→aW h n0→aQ P gf (.yld yn::caps) h n0 fun _ h' nx'=>(∃F' i,F.le F'∧fin i∧J F' i h' nx')∨D h' nx'
theorem wB{α:Type}{e0:α→List V}{ok:List α→α→Prop}{fin:List α→Prop}{P:Program}{g:aI}{ps:List Nat}{asg b:aU}{Q:bJ→St→Prop}{s:St}{gf:Nat}{caps:List V}{hb:Hp}(hit:BB P gf caps hb e0 ok fin)(hg:g.ev s.sl= .fn (.func gf) [] caps)
 (hlen:∀x,(e0 x).length=ps.length) (hd:aW s.h s.nx) (I:Hp→List α→Hp→Nat→Prop) (E:bJ→Hp→Nat→Prop)
 (hlI:∀F i h nx,I F i h nx→F.le h) (hnI:∀F i h nx nx',I F i h nx→nx≤nx'→I F i h nx') (hsI:∀F i h nx b,I F i h nx→F s.nx=none→I F i (h.set s.nx b) nx)
 (haI:∀F i h nx b,I F i h nx→aW h nx→s.nx<nx→I (F.set nx b) i (h.set nx b) (nx+1)) (huI:∀F i h nx n b b',I F i h nx→s.nx<n→F n=some b→I (F.set n b') i (h.set n b') nx)
 (hnE:∀e h nx nx',E e h nx→nx≤nx'→E e h nx') (hsE:∀e h nx b,E e h nx→E e (h.set s.nx b) nx)
 (F0:Hp) (h0:I F0 [] s.h (s.nx+1)) (hb0:hb.has F0) (hF0:F0 s.nx=none)
 (aBe:∀F i x,ok i x→∀h nx X,I F i h nx→F s.nx=none→s.nx<nx→h s.nx=some X→aW h nx→
   lwp P asg (Av s.nx X fun s1=>∀X',lwp P b (kG s.nx X' (I F (i++[x])) E) ⟨s1.sl,s1.h.set s.nx X',s1.nx⟩) ⟨aAS s.sl ps (e0 x),h,nx⟩)
 (aCJ:∀F i,fin i→F0.le F→∀h nx,I F i h nx→s.nx<nx→aW h nx→Q .normal ⟨s.sl,h.del s.nx,nx⟩)
 (hex:∀e h nx,E e h nx→s.nx<nx→aW h nx→(e= .ret∨∃id,e= .exit id)→Q e ⟨s.sl,h.del s.nx,nx⟩):lwp P (.range g ps asg b) Q s:=by
 simp only[lwp,hg];intro rcd U hpl hY;have aAO:∀(h:Hp) (b:Blk),(h.set s.nx b) s.nx=some b:=fun h b=>by simp[Ka]
 refine((hit s.nx (s.nx+1) (fun F i h nx=>I F i h nx∧h s.nx=some (.obj (rcd .ready none) U)∧F s.nx=none)
  (fun h nx=>(h s.nx=some (.obj (rcd .done (some .ret)) U)∧E .ret h nx)∨∃id,h s.nx=some (.obj (rcd .done (some (.exit id))) U)∧E (.exit id) h nx)
  (fun F i h nx hj=>hlI F i h nx hj.1) (fun F i h nx nx' hj hle=>⟨hnI F i h nx nx' hj.1 hle,hj.2⟩)
  (fun F i h nx b hj hdm hle=>⟨haI F i h nx b hj.1 hdm or,by simp only[Ka];rw[if_neg or];exact hj.2.1,by simp only[Ka];rw[if_neg or];exact hj.2.2⟩)
  (fun F i h nx n b b' hj hle hn=>⟨huI F i h nx n b b' hj.1 or hn,by simp only[Ka];rw[if_neg or];exact hj.2.1,by simp only[Ka];rw[if_neg or];exact hj.2.2⟩)
  (fun h nx nx' hD hle=>hD.imp (fun hD=>⟨hD.1,hnE _ _ _ _ hD.2 hle⟩) (fun⟨id,hD⟩=>⟨id,hD.1,hnE _ _ _ _ hD.2 hle⟩)) ?_ F0 _ ⟨hsI _ _ _ _ _ h0 hF0,aAO _ _,hF0⟩ hb0 ?_).dom).mono ?_
 ·rintro F i x hi h nx ⟨hI,hr,hFn⟩ aBG aB5;refine hY (e0 x) h nx _ (hlen _) hr ?_;refine kM ?_ (aBe F i x hi h nx _ hI hFn (aBG _ _ hr) hr aBG);intro e s1 hq;cases e with
  |exit id=>exact hq.elim
  |ret=>exact hq.elim
  |normal=>
   refine⟨hq.1,kM ?_ (hq.2 (.obj (rcd .busy none) U))⟩;intro e s2 hq2;cases e with
   |normal=>exact⟨hq2.1, .inl ⟨rfl,hsI _ _ _ _ _ hq2.2 hFn,aAO _ _,hFn⟩⟩
   |ret=>exact⟨hq2.1, .inr ⟨rfl, .inl ⟨aAO _ _,hsE _ _ _ _ hq2.2⟩⟩⟩
   |exit id=>exact⟨hq2.1, .inr ⟨rfl, .inr ⟨id,aAO _ _,hsE _ _ _ _ hq2.2⟩⟩⟩
 ·intro m b hm;unfold Ka at hm;split at hm
  ·omega
  have:=hd m b hm;omega
 rintro v h' nx' _ ⟨(⟨F',i,hFF,aAp,hI,hr,_⟩|(⟨hr,hE⟩|⟨id,hr,hE⟩)),aBG,hle⟩
 ·exact .inl ⟨hr,aCJ F' i aAp hFF _ _ hI or aBG⟩
 ·exact .inr (.inl ⟨hr,hex _ _ _ hE or aBG (.inl rfl)⟩)
 exact .inr (.inr ⟨id,hr,hex _ _ _ hE or aBG (.inr ⟨id,rfl⟩)⟩)
section
variable{P:Program}{k:Sh}{α:Type}(e:α→V)(aAK:∀x,(e x).fits k=true)
include aAK
end
section
variable{P:Program}{α:Type}(e:α→V)
end
end Go.Proofs.YtgbiopfghdilnaaGreatDoor
namespace Go.Proofs.YtgbiopfghdilnaaGreatDoor
open Go.RowKit Go.Shelf
section
variable{P:Program}{Q:St→Prop}{s:St}{dst:Option Nat}{r:List aA}{x:aI}
theorem zg{n c:Nat}{es:List ME}(hx:x.ev s.sl= .map n)(hn:s.h n=some (.mp es c))(h:aT P r Q ⟨bF s.sl dst (.ptr s.nx .leaf 0 0),s.h.set s.nx (.mit n c [] c),s.nx+1⟩):aT P (⟨dst,none, .mp (.rng x)⟩::r) Q s:=by
 unfold aT;simp only[LOp.run,LOp.sem,MOp.sem,hx,hn];exact h
theorem zh{it m c since last:Nat}{seen:List Nat}{es:List ME}(hx:x.ev s.sl= .ptr it .leaf 0 0)(hi:s.h it=some (.mit m since seen last))(hm:s.h m=some (.mp es c))(hb:∀e∈es,e.b<since)(hl:since≤last)
 (h1:∀e∈es,e.b∉seen→aT P r Q ⟨bF s.sl dst (.tup [.bool true,e.k,e.v]),s.h.set it (.mit m since (seen++[e.b]) c),s.nx+1⟩) (h2:(∀e∈es,e.b∈seen)→aT P r Q ⟨bF s.sl dst (.tup [.bool false]),s.h,s.nx+1⟩):aT P (⟨dst,none, .mp (.nxt x)⟩::r) Q s:=by
 unfold aT;simp only[LOp.run,LOp.sem,MOp.sem,hx,hi,hm];exact⟨hb,hl,h1,h2⟩
theorem zi{it m c since:Nat}{seen:List Nat}{es:List ME}(hx:x.ev s.sl= .ptr it .leaf 0 0)(hi:s.h it=some (.mit m since seen c))(hm:s.h m=some (.mp es c)){b:Nat}{e:ME}(hs:seen.getLast?=some b)(he:es.find? (fun e=>e.b==b)=some e)
 (h:aT P r Q ⟨bF s.sl dst (.tup [e.k,e.v]),s.h,s.nx+1⟩):aT P (⟨dst,none, .mp (.key x)⟩::r) Q s:=by
 unfold aT;simp only[LOp.run,LOp.sem,MOp.sem,hx,hi,hm];exact⟨trivial,b,e,hs,he,h⟩
end
section
variable{β:Type}(bn:β→Nat)
theorem B2{l:List β}(hn:(l.map bn).Nodup){x y:β}(hx:x∈l)(hy:y∈l)(h:bn x=bn y):x=y:=by
 induction l with
 |nil=>cases hx
 |cons a l ih=>
  rw[Ko,Kh] at hn;rcases Kg.1 hx with e1|h1
  ·rcases Kg.1 hy with e2|h2
   ·rw[e1,e2]
   exact absurd (Ki.2 ⟨y,h2,by rw[←h,e1]⟩) hn.1
  rcases Kg.1 hy with e2|h2
  ·exact absurd (Ki.2 ⟨x,h1,by rw[h,e2]⟩) hn.1
  exact ih hn.2 h1 h2
theorem mX{l:List β}(hn:(l.map bn).Nodup):l.Nodup:=by
 refine(List.pairwise_map.1 hn).imp ?_;rintro a b h rfl;exact h rfl
theorem A0{l js:List β}(hl:(l.map bn).Nodup)(hj:(js.map bn).Nodup)(hs:∀y∈js,y∈l)(h:∀y∈l,bn y∈js.map bn):js.Perm l:=by
 rw[List.perm_ext_iff_of_nodup (mX bn hj) (mX bn hl)];intro y;refine⟨hs y,fun hy=>?_⟩;obtain⟨z,hz,hzy⟩:=Ki.1 (h y hy);rw[B2 bn hl hy (hs z hz) hzy.symm];exact hz
theorem rW:∀{js l:List β},js.Nodup→(∀y∈js,y∈l)→js.length≤l.length
 | [],_,_,_=>Kv _
 |y::js,l,hn,hs=>by
  obtain⟨a,b,rfl⟩:=List.append_of_mem (hs y (List.mem_cons_self ..));have hn:=Kh.1 hn;have:=rW (l:=a++b) hn.2 (fun z hz=>by
   have:=hs z (List.mem_cons_of_mem _ hz);rw[Kq,Kg] at this;rcases this with h|h|h
   ·exact Kq.2 (.inl h)
   ·subst h;exact absurd hz hn.1
   exact Kq.2 (.inr h))
  simp only[Kj,jL] at this⊢;omega
theorem vt{l js:List β}(hj:(js.map bn).Nodup)(hs:∀y∈js,y∈l){y:β}(hy:y∈l)(hn:bn y∉js.map bn):js.length<l.length:=by
 have:=rW (js:=y::js) (l:=l) (Kh.2 ⟨fun h=>hn (Ki.2 ⟨y,h,rfl⟩),mX bn hj⟩) (fun z hz=>by
  rcases Kg.1 hz with rfl|hz
  ·exact hy
  exact hs z hz)
 simp only[jL] at this;omega
theorem y6{js:List β}(hj:(js.map bn).Nodup){y:β}(hn:bn y∉js.map bn):((js++[y]).map bn).Nodup:=by
 rw[Ks,List.nodup_append];refine⟨hj,Zm,?_⟩;intro a ha b hb hab;simp only[Ko,Ky,List.mem_singleton] at hb;subst hab;subst hb;exact hn ha
end
theorem Bf{β:Type}(me:β→ME){l:List β}(hn:(l.map fun y=>(me y).b).Nodup){y:β}(hy:y∈l):(l.map me).find? (fun e=>e.b==(me y).b)=some (me y):=by
 induction l with
 |nil=>cases hy
 |cons a l ih=>
  rw[Ko,Kh] at hn;rw[Ko,List.find?_cons];rcases Kg.1 hy with rfl|hy
  ·simp
  have:((me a).b==(me y).b)=false:=by
   simp only[beq_eq_false_iff_ne,ne_eq];exact fun h=>hn.1 (Ki.2 ⟨y,hy,h.symm⟩)
  rw[this];exact ih hn.2 hy
namespace LB
end LB
attribute [local irreducible] IntKind.wrap
end Go.Proofs.YtgbiopfghdilnaaGreatDoor
namespace Go.Proofs.YtgbiopfghdilnaaGreatDoor
open Go.RowKit Go.Sort
attribute [local irreducible] IntKind.wrap
set_option maxHeartbeats 4000000
theorem zG{α:Type}(p:α→Bool)(l:List α):bE p l=-1∨∃i:Nat,bE p l=i∧i<l.length:=by
 unfold bE;cases h:l.findIdx? p with
 |none=>exact .inl rfl
 |some i=>
  rw[List.findIdx?_eq_some_iff_getElem] at h;exact .inr ⟨i,rfl,h.1⟩
theorem k7(r:Ru)(s:List ByteArray)(left:List Nat):lF r s left=-1∨∃i:Nat,lF r s left=i∧i<left.length:=by
 unfold lF;split
 ·rename_i h;rcases zG (fun k=>lZ s (r.b.getD k default)) left with e|e
  ·omega
  exact .inr e
 exact zG _ _
def iR(r:Ru):Nat→List ByteArray→List Nat→List (Nat×List ByteArray)
 |0,_,_=>[]
 |n+1,s,left=>if lF r s left<0 then [] else
  (left.getD (lF r s left).toNat 0,dU r (s++(r.b.getD (left.getD (lF r s left).toNat 0) default).vars) true)::iR r n (s++(r.b.getD (left.getD (lF r s left).toNat 0) default).vars) (left.eraseIdx (lF r s left).toNat)
def nY(r:Ru):List (Nat×List ByteArray):=iR r r.b.length [] (Ke r.b.length)
def dB(r:Ru):List Nat:=(nY r).map Kt
theorem jz{r:Ru}{s:List ByteArray}{left:List Nat}(h:lF r s left<0):iR r left.length s left=[]:=by
 cases e:left.length with
 |zero=>rfl
 |succ n=>unfold iR;rw[if_pos h]
theorem jy{r:Ru}{s:List ByteArray}{left:List Nat}{i:Nat}(h:lF r s left=i)(hi:i<left.length):iR r left.length s left=(left.getD i 0,dU r (s++(r.b.getD (left.getD i 0) default).vars) true)::iR r (left.eraseIdx i).length (s++(r.b.getD (left.getD i 0) default).vars) (left.eraseIdx i):=by
 obtain⟨n,hn⟩:∃n,left.length=n+1:=⟨left.length-1,or⟩;have e:(left.eraseIdx i).length=n:=by rw[Kk hi];omega
 rw[hn,e];conv=>lhs;unfold iR
 rw[h,if_neg or,jG]
def yh(r:Ru)(p:Nat×List ByteArray):List V:=[.int .i64 p.1, .sl .leaf (frO r.vars) (p.2.map V.str)]
set_option maxHeartbeats 8000000 in
theorem pi(r:Ru)(hr:eQ r=true):BB Tryz.prog 83 [.ept (.agg 6) [r.v] 0 0] Hp.none (yh r) (fun i x=>∃l,nY r=i++x::l) (fun i=>i=nY r):=by
 intro yn n0 J D hJF hJn hJa hJu hDn hy F0 h0 hj0 _ aFq;refine aB L.aUi fun hd=>?_;obtain⟨b1,b2,b3⟩:=dI hr;simp only[jL,jM,jA,jB,jN,jO,jP,jQ,V.undef];refine aue (e3 Ru.v.eq_1 trs.eq_1 (@jK Li V)) ?_;refine sC ?_;refine Zn ?_;refine aue (e3 Ru.v.eq_1 trs.eq_1 (@jK Li V)) ?_
 --the places
 have hj1:=hJa F0 [] h0 n0 (.mp [] 0) hj0 aFq (Km _);have hlr:(Ke r.b.length).length=r.b.length:=Ku
 refine aS (fun q:Nat×V=>aF 50 0 [(0, .yld yn),(1, .ept (.agg 6) [r.v] 0 0),(3, .map n0),(4,q.2),(10, .sl (.agg 17) r.o (r.b.map Li.v)),(11, .int .i64 r.b.length),(12, .int .i64 q.1)])
  (fun q hp nx1=>q.1≤r.b.length∧n0+1≤nx1∧aW hp nx1∧Hp.same (n0+1) (h0.set n0 (.mp [] 0)) hp∧OwL hp (n0+1) .leaf ((Ke q.1).map kV) q.2)
  (fun q=>r.b.length-q.1) (0, .sl .leaf .nil []) ⟨Kv _,Zw,dmo aFq,by exact kep Hp.same.aBb, .inl ⟨rfl,rfl⟩⟩ (by simp only[WkL,aF,jH,jI,jJ,jK,Ru.v.eq_1,go_sem,reduceIte,jA,jB,jC,jD,reduceCtorEq,jE,jF]) ?_
 rintro⟨i,v⟩ hp nx1 ⟨hi,hnx,hdm,hsm,aA2⟩;generalize hQ:bK _ _ _ _ _=Q0;dsimp only at hi aA2;simp only[aF,go_sem,reduceIte,jA,jB,jC,jD,reduceCtorEq,jE,jF];rcases Nat.lt_or_ge i r.b.length with hlt|hge
 ·have hc:decide ((i:Int)<(r.b.length:Int))=true:=dct;have hw:IntKind.i64.wrap ((i:Int)+1)=((i+1:Nat):Int):=wrp;have hrs:(Ke (i+1)).map kV=(Ke i).map kV++[.int .i64 i]:=by rw[List.range_succ,Ks];rfl
  rcases aA2 with⟨q1,rfl⟩|⟨q1,id,q2,rfl,q3⟩
  ·have hi0:i=0:=by
    have:=congrArg Kz q1;simpa using this
   subst hi0;refine aun (e2 hc hw) ?_;refine fT rfl rfl Zm (by simp only[jL,jM];omega) ?_;refine Zn ?_;refine aue hw ?_;rw[←hQ];refine aG (0+1, .rs (nx1+1) .leaf 0 1) Zw ⟨hlt,or,dmo hdm,kep hsm, .inr ⟨Zm,nx1+1,or,Zm,by rw[hrs];simp only[go_sem,reduceIte,jA,jB,jC,jD,reduceCtorEq,jE,jF];rfl⟩⟩ (by simp only[WkL,aF,jH,jI,jJ,go_sem,reduceIte,jA,jB,jC,jD,reduceCtorEq,jE,jF])
  have hid:id<nx1:=hdm _ _ q3;have hlm:(Ke i).length=i:=Ku;have htk:((Ke i).map kV).take i=(Ke i).map kV:=List.take_of_length_le Zm;simp only[jK,hlm];refine aue (e7 hc hw q3 hid hlm htk b2) ?_;rw[←hQ];refine aG (i+1, .rs (nx1+1) .leaf 0 (i+1)) Zw ⟨hlt,or,dmo hdm,kep hsm, .inr ⟨Zm,nx1+1,or,Zm,by rw[hrs];simp only[go_sem,reduceIte,jA,jB,jC,jD,reduceCtorEq,jE,jF]⟩⟩ (by simp only[WkL,aF,jH,jI,jJ,go_sem,reduceIte,jA,jB,jC,jD,reduceCtorEq,jE,jF])
 have hc:decide ((i:Int)<(r.b.length:Int))=false:=dcf;have hib:i=r.b.length:=or;subst hib;refine aue hc ?_;rw[←hQ];refine au ?_;have aAn:∀{m b},(h0.set n0 (.mp [] 0)) m=some b→hp m=some b:=fun{m b} e=>by
  have:m<n0+1:=(aW.aMT (aFq.up (KA _)) (Kw _) _) m b e;rw[hsm m this];exact e
 have hpl:∃F hj,F0.le F∧J F [] hj nx1∧hj.le hp∧F n0=some (.mp [] 0)∧PlL F (n0+1) (Ke r.b.length) v:=by
  have hF1:F0.le (F0.set n0 (.mp [] 0)):=fY (Kc _) (aW.none (aFq.le (hJF _ _ _ _ hj0)) (Km _)) _;rcases aA2 with⟨q1,rfl⟩|⟨q1,id,q2,rfl,q3⟩
  ·exact⟨_,_,hF1,hJn _ _ _ _ _ hj1 hnx,fun m b e=>aAn e,by simp[Ka], .inl ⟨by simpa using q1,rfl⟩⟩
  have hid:id<nx1:=hdm _ _ q3;have hd1:aW (h0.set n0 (.mp [] 0)) (n0+1):=aW.aMT (aFq.up (KA _)) (Kw _) _;have hj2:=hJa _ _ _ _ (.arr .leaf ((Ke r.b.length).map kV)) (hJn _ _ _ _ _ hj1 q2) (hd1.up q2) or;have hFd:aW (F0.set n0 (.mp [] 0)) (n0+1):=hd1.le (hJF _ _ _ _ hj1);refine⟨_,_,Kd hF1 (fY (Kc _) (aW.none hFd q2) _),hJn _ _ _ _ _ hj2 or,fun m b e=>?_,?_, .inr ⟨id,[],q2,Zm,by simp[Ka]⟩⟩
  ·simp only[Ka] at e;split at e
   ·rename_i hm;rw[hm,q3];exact e
   exact aAn e
  simp only[Ka];rw[if_neg or];simp
 obtain⟨F,hj,p1,p2,p3,p4,p5⟩:=hpl
 refine aS (fun q:List (Nat×List ByteArray)×List ByteArray×List Nat×V=>aF 50 0 [(0, .yld yn),(1, .ept (.agg 6) [.agg [.str r.h.r, .sl (.agg 4) r.h.o (r.h.l.map Tr.v), .int .i64 r.g, .int .i64 r.c, .sl (.agg 17) r.o (r.b.map Li.v), .int .i64 r.at_]] 0 0),(3, .map n0),(4,q.2.2.2)])
  (fun q hp nx1=>aW hp nx1∧n0+1≤nx1∧(∃F hj es c,F0.le F∧J F q.1 hj nx1∧hj.le hp∧F n0=some (.mp es c)∧fJ es q.2.1∧PlL F (n0+1) q.2.2.1 q.2.2.2)∧nY r=q.1++iR r q.2.2.1.length q.2.1 q.2.2.1∧(∀k∈q.2.2.1,k<r.b.length)∧q.2.1.length+q.2.2.1.length*2097158≤8*2097158)
  (fun q=>q.2.2.1.length) ([],[],Ke r.b.length,v) ⟨hdm,hnx,⟨F,hj,[],0,p1,p2,p3,p4,cw,p5⟩,by simp[nY],fun k hk=>by simpa using hk,by dsimp only;rw[hlr];simp only[jM];omega⟩ (by simp only[WkL,aF,jH,jI,jJ,Ru.v.eq_1,go_sem,reduceIte,jA,jB,jC,jD,reduceCtorEq,jE,jF]) ?_
 rintro⟨done,s,left,v⟩ hp nx1 ⟨hdm,hnx,⟨F,hj,es,c,p1,p2,p3,p4,p5,p6⟩,hst,hlt,hsl⟩;generalize hQ:bK _ _ _ _ _=Q0;dsimp only at p2 p5 p6 hst hlt hsl;simp only[aF,go_sem,reduceIte,jA,jB,jC,jD,reduceCtorEq,jE,jF];have hFp:F.le hp:=Kd (hJF _ _ _ _ p2) p3;have hm1:hp n0=some (.mp es c):=hFp _ _ p4;have hll:left.length≤8:=or;have C:=pk r hr s or n0 es c hp hm1 p5 left hlt or (n0+1) v (p6.le hFp);simp only[Ru.v] at C;refine aue trs.eq_1 ?_;refine aH C rfl (aK _) ?_;refine Zn ?_;rcases k7 r s left with hi|⟨i,hi,hil⟩
 ·rw[hi];have g1:decide ((-1:Int)<0)=true:=rfl;refine aue g1 ?_;rw[←hQ];refine au ?_;refine⟨hj,p3, .inl ⟨F,done,p1,?_,p2⟩⟩;rw[hst,jz or,List.append_nil]
 rw[hi];have g1:decide ((i:Int)<0)=false:=dcf;rcases p6 with⟨rfl,_⟩|⟨id,zs,k1,rfl,k3⟩
 ·cases hil
 have aMs:=hFp _ _ k3;have aVy:id<nx1:=hdm _ _ aMs;have aEd:left.getD i 0=left[i]:=by rw[Kf,Kp hil];rfl
 have hkb:=hlt left[i] (Kx _);have hg:(left.map kV++zs).getD i (.tup [])= .int .i64 left[i]:=by rw[Kf,List.getElem?_append_left (by simpa using hil),←Kf];exact aN kV left i hil
 have hap:(left.map kV++zs).length=left.length+zs.length:=Zm;have hlz:i<left.length+zs.length:=or;have hw:IntKind.i64.wrap ((i:Int)+1)=((i+1:Nat):Int):=wrp;refine aue (e8 g1 aMs hg hap hlz hil hw (Nat.zero_add i)) ?_;rw[show left.length=(left.map kV).length by simp];refine bG ((bg id (left.map kV) zs i hp nx1 aMs (by simpa using hil)).dom.mono ?_);rintro v2 h2 nx2 aAd ⟨⟨rfl,rfl⟩,hd2,_⟩;unfold cN;refine Zn ?_;have hg2:=aN Li.v r.b left[i] hkb;have hD2:r.b.getD left[i] default=r.b[left[i]]:=by rw[Kf,Kp hkb];rfl
 have hrl:=b3 r.b[left[i]] (Kx _);have hs2:=jy hi hil;rw[aEd,hD2] at hs2;generalize r.b[left[i]]=l at hg2 hrl hs2;have hvl:=pC hrl;have hf:=Li.aAD l;obtain⟨o1,ho1⟩:=cL .leaf (l.vars.map V.str);have C1:∀h:Hp,aM Tryz.prog 40 [l.v] h (.sl .leaf o1 (l.vars.map V.str)):=fun h=>ho1▸tC l hrl h;obtain⟨X,hX⟩:∃X,l.v=X:=⟨_,rfl⟩;rw[hX] at hg2 hf C1;generalize hH:Ka hp id _=H;have aTT:H id=some (.arr .leaf ((left.map kV).take i++(left.map kV).drop (i+1)++(zin::zs))):=by rw[←hH];simp[Ka]
 have hHo:∀m,m≠id→H m=hp m:=fun m hm=>by rw[←hH];simp only[Ka];rw[if_neg hm]
 rw[hH] at hd2;have hHn:H n0=some (.mp es c):=by rw[hHo n0 or];exact hm1
 refine aue (e5 hg2 hf hkb (@jK Li V) jG) ?_;refine bG ((qN o1 l.vars s or n0 es c H nx2 hHn p5).dom.mono ?_);rintro v3 h3 nx3 aEA ⟨⟨es3,c3,w1,w2,w3⟩,hd3,_⟩;unfold cN;refine Zn ?_;have S:=xM r hr (s++l.vars) n0 es3 c3 h3 w1 w2 true;simp only[Ru.v] at S;refine aue trs.eq_1 ?_;refine aH S rfl (aK _) ?_;refine Zn ?_;have er:(left.map kV).take i++(left.map kV).drop (i+1)=(left.eraseIdx i).map kV:=by rw[List.eraseIdx_eq_take_drop_succ,Ks,List.map_take,List.map_drop]
 have el:(left.eraseIdx i).length=left.length-1:=Kk hil;have hjF:=hJu _ _ _ _ id _ (.arr .leaf ((left.eraseIdx i).map kV++(zin::zs))) p2 or k3;have aTF:=hJu _ _ _ _ n0 (.mp es c) (.mp es3 c3) hjF (Km _) (by simp only[Ka];rw[if_neg or];exact p4);have aTE:=hJn _ _ _ _ nx3 aTF or;have hj3:((hj.set id (.arr .leaf ((left.eraseIdx i).map kV++(zin::zs)))).set n0 (.mp es3 c3)).le h3:=fun m b e=>by
  simp only[Ka] at e;split at e
  ·rename_i hm;rw[hm,w1];exact e
  rename_i hm;split at e
  ·rename_i hm2;rw[hm2,w3 id or or,aTT,er];exact e
  rename_i hm2;have:=p3 m b e;rw[w3 m (Nat.lt_of_lt_of_le (hdm _ _ this) aAd) hm,hHo m hm2];exact this
 have aTU:F0.le ((F.set id (.arr .leaf ((left.eraseIdx i).map kV++(zin::zs)))).set n0 (.mp es3 c3)):=fun m b e=>by
  have hm:m<n0:=aFq m b (hJF _ _ _ _ hj0 m b e);simp only[Ka];rw[if_neg or,if_neg or];exact p1 m b e
 have Y:=hy _ _ (left[i],dU r (s++l.vars) true) ⟨_,by rw[hst,hs2]⟩ _ nx3 aTE (hd3.le hj3) or;unfold yh at Y;refine au ?_;refine nB rfl ((Y.weaken hj3).dom.mono ?_);rintro v4 h4 nx4 aDf ⟨hv,hd4,_⟩;rcases hv with⟨rfl,hv⟩|⟨rfl,hv⟩
 ·unfold cN;refine Zn ?_;refine au ?_;rw[←hQ];refine aG (done++[(left[i],dU r (s++l.vars) true)],s++l.vars,left.eraseIdx i, .rs id .leaf 0 ((left.map kV).length-1)) Zw ⟨hd4,or,⟨_,h4,es3,c3,aTU,hv,Kc _,by simp[Ka],w2, .inr ⟨id,zin::zs,k1,by rw[el,jK],by simp only[Ka];rw[if_neg or];simp⟩⟩,?_,fun k hk=>hlt k (List.mem_of_mem_eraseIdx hk),?_⟩ (by simp only[WkL,aF,jH,jI,jJ,jK,go_sem,reduceIte,jA,jB,jC,jD,reduceCtorEq,jE,jF])
  ·dsimp only;rw[hst,hs2];simp
  dsimp only;rw[el,Kj];have:left.length=(left.length-1)+1:=or;rw[this,Nat.add_mul] at hsl;omega
 unfold cN;refine Zn ?_;refine au ?_;rw[←hQ];refine au ?_;exact⟨h4,Kc _, .inr hv⟩
theorem ph(r:Ru)(h:Hp):aM Tryz.prog 43 [r.v] h (.fn (.func 83) [] [.ept (.agg 6) [r.v] 0 0]):=by
 have hf:r.v.fits (.agg 6)=true:=rfl;refine rT (fun L hL=>by simpa [V.names,bD] using hL) fun h' nx hh=>aB L.aVH fun hd=>?_;obtain⟨ev,hev⟩:∃ev,r.v=ev:=⟨_,rfl⟩;rw[hev] at hf⊢;simp only[jL,jM,jA,jB,jN,jO,jP,jQ,V.undef];refine bQ ?_;generalize hR:lP _ _=R;refine aue hf ?_;rw[←hR];refine fF (xH (t:=1) (n:=nx) (k:= .agg 6) (i:=0) (o:=0) (es:=[ev]) rfl (by simp only[go_sem,reduceIte,jA,jB,jC,jD,reduceCtorEq,jE,jF])) ?_;refine Zn ?_;refine au ?_;refine aC h' (fun m b e=>?_) ⟨rfl,rfl⟩;have:=hd _ _ e;simp only[Hp.del,Ka];rw[if_neg or,if_neg or];exact e
theorem mT(r:Ru):∀(n:Nat) (s:List ByteArray) (left:List Nat),(iR r n s left).length≤n
 |0,_,_=>Km _
 |n+1,s,left=>by
  unfold iR;split
  ·exact Kv _
  have:=mT r n (s++(r.b.getD (left.getD (lF r s left).toNat 0) default).vars) (left.eraseIdx (lF r s left).toNat);simp only[jL];omega
set_option maxHeartbeats 4000000
theorem qd(r:Ru)(hr:eQ r=true)(h:Hp):aM Tryz.prog 10 [r.v] h (lst .leaf ((dB r).map kV)):=by
 refine ki (fun L=>bB (f:=kV) (fun _=>trivial) _) fun h' nx hh=>aB L.g4z fun hd=>?_;have hd:aW h' nx:=hd;have hit:=pi r hr;have C1:=fun h=>ph r h;have hb8:=(dI hr).2.1;have hsl:=mT r r.b.length [] (Ke r.b.length);obtain⟨X,hX⟩:∃X,r.v=X:=⟨_,rfl⟩;have hf:X.fits (.agg 6)=true:=by rw[←hX];rfl
 rw[hX] at hit C1⊢;simp only[jL,jM,jA,jB,jN,jO,jP,jQ,V.undef];refine aue hf ?_;have aAc:∀n,nx≤n→h' n=none:=fun n hn=>aW.none hd hn;obtain⟨I,hI⟩:∃I:Hp→List (Nat×List ByteArray)→Hp→Nat→Prop,∀F i h nx1,I F i h nx1↔(h'.le F∧F.le h∧F (nx+1)=none∧(∃acc,h (nx+1)=some (.arr .leaf [acc])∧((i=[]∧acc= .sl .leaf .nil [])∨(i≠ []∧∃id,nx≤id∧id≠nx+1∧id≠nx+2∧F id=none∧acc= .rs id .leaf 0 i.length∧h id=some (.arr .leaf ((i.map Kt).map kV)))))):=⟨_,fun _ _ _ _=>Iff.rfl⟩;have aMH:∀{F h:Hp} (n:Nat) (b:Blk),F.le h→(F.set n b).le (h.set n b):=fun n b hF m c hm=>by
  unfold Ka at hm⊢;split
  ·rename_i e1;rw[if_pos e1] at hm;exact hm
  rename_i e1;rw[if_neg e1] at hm;exact hF m c hm
 refine wB hit rfl (fun x=>rfl) (by exact dmo hd) I (fun _ _ _=>False) ?_ ?_ ?_ ?_ ?_ (fun _ _ _ _ h=>h.elim) (fun _ _ _ _ h=>h.elim) h' ?_ (aZ _) (aAc _ Zm) ?_ ?_ (fun _ _ _ h=>h.elim)
 ·exact fun F i h nx1 hi=>((hI _ _ _ _).1 hi).2.1
 ·exact fun F i h nx1 nx2 hi _=>(hI _ _ _ _).2 ((hI _ _ _ _).1 hi)
 ·intro F i h nx1 b hi hFn;obtain⟨hle,hFh,hF0,acc,h1,h2⟩:=(hI _ _ _ _).1 hi;refine(hI _ _ _ _).2 ⟨hle,fY hFh hFn b,hF0,acc,?_,?_⟩
  ·simp only[Kb];rw[if_neg or];exact h1
  rcases h2 with h2|⟨hi,id,h3,h4,h5,hFi,h6,h7⟩
  ·exact .inl h2
  refine .inr ⟨hi,id,h3,h4,h5,hFi,h6,?_⟩;simp only[Kb];rw[if_neg h5];exact h7
 ·intro F i h nx1 b hi hdm hlt;obtain⟨hle,hFh,hF0,acc,h1,h2⟩:=(hI _ _ _ _).1 hi;simp only at hlt;have hFd:=hdm.le hFh;refine(hI _ _ _ _).2 ⟨Kd hle (fY (Kc _) (aW.none hFd (Km _)) b),aMH _ _ hFh,?_,acc,?_,?_⟩
  ·simp only[Kb];rw[if_neg or];exact hF0
  ·simp only[Kb];rw[if_neg or];exact h1
  rcases h2 with h2|⟨hi,id,h3,h4,h5,hFi,h6,h7⟩
  ·exact .inl h2
  have hid:id<nx1:=hdm _ _ h7;refine .inr ⟨hi,id,h3,h4,h5,?_,h6,?_⟩
  ·simp only[Kb];rw[if_neg or];exact hFi
  simp only[Kb];rw[if_neg or];exact h7
 ·intro F i h nx1 n b b' hi hlt hn;obtain⟨hle,hFh,hF0,acc,h1,h2⟩:=(hI _ _ _ _).1 hi;simp only at hlt;refine(hI _ _ _ _).2 ⟨fY hle (aAc _ or) b',aMH _ _ hFh,?_,acc,?_,?_⟩
  ·simp only[Kb];rw[if_neg or];exact hF0
  ·simp only[Kb];rw[if_neg or];exact h1
  rcases h2 with h2|⟨hi,id,h3,h4,h5,hFi,h6,h7⟩
  ·exact .inl h2
  have hne:id≠n:=fun e=>by rw[e,hn] at hFi;cases hFi
  refine .inr ⟨hi,id,h3,h4,h5,?_,h6,?_⟩
  ·simp only[Kb];rw[if_neg hne];exact hFi
  simp only[Kb];rw[if_neg hne];exact h7
 ·exact(hI _ _ _ _).2 ⟨Kc _,leo hd,aAc _ or, .sl .leaf .nil [],by simp[Kb], .inl ⟨rfl,rfl⟩⟩
 ·rintro F i ⟨k,ss⟩ ⟨l,hl⟩ h nx1 Y hii hFn hnx hY hdm;obtain⟨aB5,hFh,hF0,acc,h1,h2⟩:=(hI _ _ _ _).1 hii;simp only at hnx hY hFn;have hFd:=hdm.le hFh;have hil:i.length≤8:=by
   have:=congrArg Kz hl;unfold nY at this;simp only[Kj,jL] at this;omega
  have aMK:nx+1<nx1:=or;have e7:(nx+1=nx1+1)=False:=fls;have e8:(nx+2=nx1+1)=False:=fls;have e9:(nx+2=nx+1)=False:=fls;have e11:(nx+2=nx1)=False:=fls;simp only[aAS,yh,List.set_cons_succ,List.set_cons_zero];refine au ?_;refine lL (by simp only[go_sem,reduceIte,jA,jB,jC,jD,reduceCtorEq,jE,jF];exact hY) fun Y'=>?_;refine Zn ?_;refine bA (bZ ?_);have hm:(((i++[(k,ss)]).map Kt).map kV)=(i.map Kt).map kV++[.int .i64 k]:=by simp[kV]
  have aDd:∀(h'':Hp) (nx2 id:Nat),F.le h''→nx1≤id→h'' (nx+1)=some (.arr .leaf [.rs id .leaf 0 (i.length+1)])→h'' (nx+2)=some Y'→h'' id=some (.arr .leaf ((i.map Kt).map kV++[.int .i64 k]))→∀sl,eK 1 (kG (nx+2) Y' (I F (i++[(k,ss)])) (fun _ _ _=>False)) .normal ⟨sl,h'',nx2⟩:=by
   intro h'' nx2 id q1 q2 q3 q4 q5 sl;exact aO (lT q4 ((hI _ _ _ _).2 ⟨aB5,q1,hF0,_,q3, .inr ⟨Zm,id,or,or,or,aW.none hFd q2,Zm,by rw[hm];exact q5⟩⟩))
  generalize hQ:eK 1 (kG (nx+2) Y' (I F (i++[(k,ss)])) (fun _ _ _=>False)) .normal=Qn at aDd⊢;have hFx:∀n,(nx1≤n∨n=nx+1∨n=nx+2)→F n=none:=fun n hn=>by
   rcases hn with hn|rfl|rfl
   ·exact aW.none hFd hn
   ·exact hF0
   exact hFn
  have aEA:∀n,(nx1≤n∨n=nx+1∨n=nx+2)→∀{h2:Hp},F.le h2→∀b,F.le (h2.set n b):=fun n hn h2 q b=>fY q (hFx n hn) b;rcases h2 with⟨rfl,rfl⟩|⟨aAl,id,h3,h4,h5,hFi,rfl,h7⟩
  ·refine aun (e4 h1 e7 e8 aMK) ?_;refine fT rfl rfl Zm (by simp only[jL,jM];omega) ?_;refine Zn ?_;refine aue (e4 h1 e7 e8 aMK) ?_;refine aDd _ _ (nx1+1) ?_ or ?_ ?_ ?_ _
   ·repeat (first|exact hFh|refine aEA _ or ?_ _)
   ·simp only[h1,e7,e8,go_sem,reduceIte,jA,jB,jC,jD,reduceCtorEq,jE,jF]
   ·simp only[h1,e7,e8,e9,e11,go_sem,reduceIte,jA,jB,jC,jD,reduceCtorEq,jE,jF]
   have e10:(nx1+1=nx+1)=False:=fls;simp only[e10,Ky,jQ,go_sem,reduceIte,jA,jB,jC,jD,reduceCtorEq,jE,jF]
  have hid:id<nx1:=hdm _ _ h7;have f3:(id=nx+1)=False:=fls h4;have f4:(id=nx+2)=False:=fls h5;have f5:(id=nx1+1)=False:=fls;have f6:(nx+1=id)=False:=fls (fun e=>h4 e.symm);have f7:(nx+2=id)=False:=fls (fun e=>h5 e.symm);have hlen:((i.map Kt).map kV).length=i.length:=Zm;refine aue (e12 h1 h7 e7 e8 aMK hlen hil f3 f4 f5 f6 (e2 f7 hid)) ?_;refine aDd _ _ (nx1+1) ?_ or ?_ ?_ ?_ _
  ·repeat (first|exact hFh|refine aEA _ or ?_ _|refine nE ?_ hFi)
  ·simp only[h1,e7,e8,f6,go_sem,reduceIte,jA,jB,jC,jD,reduceCtorEq,jE,jF]
  ·simp only[h1,e7,e8,e9,e11,f7,go_sem,reduceIte,jA,jB,jC,jD,reduceCtorEq,jE,jF]
  have e10:(nx1+1=nx+1)=False:=fls;simp only[e10,go_sem,reduceIte,jA,jB,jC,jD,reduceCtorEq,jE,jF]
 intro F xs aAp hFF h nx1 hii hnx hdm;obtain⟨aB5,hFh,hF0,acc,h1,h2⟩:=(hI _ _ _ _).1 hii;have hle:=Kd aB5 hFh;simp only at hnx;have e1:(nx+1=nx+2)=False:=fls;refine aue (e2 h1 e1) ?_;subst aAp;rcases h2 with⟨h2,rfl⟩|⟨aAl,id,h3,h4,h5,hFi,rfl,h7⟩
 ·refine aC h' (nE hle (aAc _ or)) ⟨.inl ⟨by unfold dB;rw[h2];rfl,rfl⟩,Hp.same.aBb⟩
 refine aC (h'.set id (.arr .leaf ((dB r).map kV))) ?_ ⟨.inr ⟨?_,id,h3,?_,by simp[Ka]⟩,fun m hm=>by simp only[Ka];rw[if_neg or]⟩
 ·refine tI (nE hle (aAc _ or)) ?_;simp only[Hp.aAx];rw[if_neg h5,h7];rfl
 ·unfold dB;simpa using aAl
 unfold dB;simp only[jK,go_sem,reduceIte,jA,jB,jC,jD,reduceCtorEq,jE,jF]
end Go.Proofs.YtgbiopfghdilnaaGreatDoor
