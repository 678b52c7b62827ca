/-
Texts of this proof,one behind the other. No conditions.
-/
import Derived.Test.YtlhedpgobaellaaGreatDoorKh
open Go.Proofs.YtlhedpgobaellaaGreatDoor.V renaming undef→Ka
open Go.Proofs.YtlhedpgobaellaaGreatDoor.LOp renaming run→Kb,sem→Kd
open List renaming forall_mem_cons→Kc,all_eq_true→Ki,getD_eq_getElem?_getD→Kj,getElem?_eq_getElem→Km,getElem?_eq_none→Ko,mem_cons_of_mem→Kp,mem_cons_self→Kv,getElem?_set→Kx,not_mem_nil→Kz,mem_range→KC,range→KF
open Option renaming map_eq_some_iff→Ke,bind_eq_some_iff→Kg
open Bool renaming and_eq_true→Kf,false_eq_true→Kt,not_eq_false'→Ku,not_eq_true'→Kw,or_eq_true→KB
open Nat renaming blt→Kh,le_refl→Kk,ble→Kq,blt_eq→Ks,zero_le→Ky,lt_or_ge→KD,ble_eq→KE
set_option linter.all false
set_option maxHeartbeats 8000000
namespace Go.Proofs.YtlhedpgobaellaaGreatDoor
open Go.RowKit
abbrev Mem:=List (Nat×Blk)
def lk:Mem→Hp
 | [],_=>none
 |(m,b)::r,n=>bif m==n then some b else lk r n
def upM(n:Nat)(b:Blk):Mem→Mem
 | []=>[(n,b)]
 |(m,c)::r=>bif m==n then (n,b)::r else (m,c)::upM n b r
def dlM(n:Nat):Mem→Mem
 | []=>[]
 |(m,c)::r=>bif m==n then dlM n r else (m,c)::dlM n r
theorem kL{n:Nat}{b:Blk}{l:Mem}:lk ((n,b)::l)=(lk l).set n b:=by
 funext m;simp only[lk,Hp.set];by_cases h:n=m
 ·subst h;simp
 rw[if_neg (fun e=>h e.symm),beq_false_of_ne h];rfl
theorem AK{n:Nat}{b:Blk}:∀{l:Mem},lk (upM n b l)=(lk l).set n b
 | []=>kL
 |(m,c)::r=>by
  funext k;simp only[upM];by_cases h:m=n
  ·subst h;simp only[beq_self_eq_true,cond_true,kL];simp only[Hp.set];split<;>rfl
  rw[beq_false_of_ne h];simp only[cond_false,kL,AK (l:=r)];simp only[Hp.set];split
  ·rename_i h1;subst h1;rw[if_neg h]
  rfl
theorem DS{n:Nat}:∀{l:Mem},lk (dlM n l)=(lk l).del n
 | []=>by funext k;simp only[dlM,lk,Hp.del];split<;>rfl
 |(m,c)::r=>by
  funext k;simp only[dlM];by_cases h:m=n
  ·subst h;simp only[beq_self_eq_true,cond_true,DS (l:=r),kL];simp only[Hp.del,Hp.set];split
   ·rfl
   rfl
  rw[beq_false_of_ne h];simp only[cond_false,kL,DS (l:=r)];simp only[Hp.set,Hp.del];split
  ·rename_i h1;subst h1;rw[if_neg h]
  rfl
def j9(k t:Sh)(o:Nat):Bool:=
 match k,t with
 | .leaf, .leaf=>o==0
 | .leaf, .agg _=>false
 | .agg n, .leaf=>Kh o n
 | .agg n, .agg m=>Kq (o+m) n
theorem bw{k t:Sh}{o:Nat}(h:j9 k t o=true):cB k t o:=by
 unfold j9 at h;unfold cB;split at h<;>simp_all [Ks,KE]
def gd(b:Bool)(v:V):Option V:=bif b then some v else none
def Gg(op:BinOp)(k:IntKind)(a b:Int):Option V:=
 match op with
 | .add=>some (.int k (k.wrap (a+b)))
 | .sub=>some (.int k (k.wrap (a-b)))
 | .mul=>some (.int k (k.wrap (a*b)))
 | .eql=>some (.bool (a==b))
 | .neq=>some (.bool (a != b))
 | .lss=>some (.bool (decide (a<b)))
 | .leq=>some (.bool (decide (a≤b)))
 | .gtr=>some (.bool (decide (b<a)))
 | .geq=>some (.bool (decide (b≤a)))
 |_=>none
def Gc(op:BinOp)(s t:ByteArray):Option V:=
 match op with
 | .eql=>some (.bool (s.toList==t.toList))
 | .neq=>some (.bool (!(s.toList==t.toList)))
 |_=>none
def aY.val(sl:List V)(h:Hp):aY→Option V
 | .move x=>some (x.ev sl)
 | .pick c a b=>match c.ev sl with
  | .bool t=>some (V.pick t (a.ev sl) (b.ev sl))
  |_=>none
 | .load t x=>match x.ev sl with
  | .ptr n k i o=>match h n with
   |some (.arr k' es)=>gd (k'==k&&Kh i es.length&&j9 k t o) (bF t o (es.getD i Ka))
   |_=>none
  | .ept k es i o=>gd (Kh i es.length&&j9 k t o) (bF t o (es.getD i Ka))
  |_=>none
 | .nilCheck x=>match x.ev sl with
  | .ptr n k i o=>some (.ptr n k i o)
  | .ept k es i o=>some (.ept k es i o)
  |_=>none
 | .bin op x y=>match x.ev sl,y.ev sl with
  | .int k a, .int k' b=>bif k==k' then Gg op k a b else none
  | .str s, .str t=>Gc op s t
  |_,_=>none
 | .eq ng ty x y=>(veq ty (x.ev sl) (y.ev sl)).map fun r=> .bool (if ng then !r else r)
 | .not x=>match x.ev sl with
  | .bool b=>some (.bool (!b))
  |_=>none
 | .neg x=>match x.ev sl with
  | .int k n=>some (.int k (k.wrap (0-n)))
  |_=>none
 | .conv k x=>match x.ev sl with
  | .int _ n=>some (.int k (k.wrap n))
  |_=>none
 | .mkif t x=>some (.iface t (x.ev sl))
 | .mkfn f first cap=>some (.fn f (first.map (aK.ev sl)) (cap.map (aK.ev sl)))
 | .fldA off x=>match x.ev sl with
  | .ptr n k i o=>some (.ptr n k i (o+off))
  | .ept k es i o=>some (.ept k es i (o+off))
  |_=>none
 | .fld t off x=>match x.ev sl with
  | .agg cs=>gd (j9 (.agg cs.length) t off&&cs.all V.aAE) (bF t off (.agg cs))
  |_=>none
 | .idxA k x i=>match x.ev sl,i.ev sl with
  | .sl k' _ es, .int _ j=>gd (k'==k&&decide (0≤j)&&Kh j.toNat es.length) (.ept k es j.toNat 0)
  | .rs n k' off ln, .int _ j=>gd (k'==k&&decide (0≤j)&&Kh j.toNat ln) (.ptr n k (off+j.toNat) 0)
  |_,_=>none
 | .idxP ln k x i=>match x.ev sl,i.ev sl with
  | .ptr n k' i' o, .int _ j=>gd (decide (0≤j)&&Kh j.toNat ln) (.ptr n k' i' (o+j.toNat*k.size))
  | .ept k' es i' o, .int _ j=>gd (decide (0≤j)&&Kh j.toNat ln) (.ept k' es i' (o+j.toNat*k.size))
  |_,_=>none
 | .len x=>match x.ev sl with
  | .sl _ _ es=>some (.int .i64 es.length)
  | .rs _ _ _ ln=>some (.int .i64 ln)
  |_=>none
 | .slen x=>match x.ev sl with
  | .str s=>some (.int .i64 s.size)
  |_=>none
 | .ext x i=>match x.ev sl with
  | .tup vs=>gd (Kh i vs.length) (vs.getD i Ka)
  |_=>none
 | .build z parts=>gd (parts.all fun p=>(p.2.2.ev sl).fits p.2.1&&Kq (p.1+p.2.1.size) z.length) (.agg (fe z (parts.map fun p=>(p.1,(p.2.2.ev sl).cells))))
 | .slc k x lo hi mx=>match x.ev sl with
  | .sl k' own es=>match cU sl 0 lo,cU sl es.length hi,cU sl es.length mx with
   |some l,some h',some m=>gd (k'==k&&decide (0≤l)&&decide (l≤h')&&decide (h'≤m)&&decide (m≤es.length)&&(!hi.isNone||mx.isNone)) (.sl k (aDP own es (dR sl hi) (dR sl mx)) ((es.take h'.toNat).drop l.toNat))
   |_,_,_=>none
  |_=>none
 | .slcs x lo hi=>match x.ev sl with
  | .str s=>match cU sl 0 lo,cU sl s.size hi with
   |some l,some h'=>gd (decide (0≤l)&&decide (l≤h')&&decide (h'≤s.size)) (.str (s.extract l.toNat h'.toNat))
   |_,_=>none
  |_=>none
 | .mnx mx x y=>match x.ev sl,y.ev sl with
  | .int k a, .int k' b=>gd (k==k') (.int k (yW mx a b))
  |_,_=>none
 | .asrt t z x=>match x.ev sl with
  | .iface t' v=>some (.tup [if t'=t then v else z, .bool (decide (t'=t))])
  | .nilIface=>some (.tup [z, .bool false])
  |_=>none
 | .asrq t x=>match x.ev sl with
  | .iface t' v=>gd (t'==t) v
  |_=>none
 | .sidx n x i=>match n,x.ev sl,i.ev sl with
  |none, .str s, .int _ j=>gd (decide (0≤j)&&decide (j<s.size)) (.int .u8 (s.data.toList.getD j.toNat 0).toNat)
  |some n, .agg cs, .int _ j=>gd (decide (0≤j)&&Kh j.toNat n&&Kh j.toNat cs.length) (cs.getD j.toNat Ka)
  |_,_,_=>none
 | .pslc n k x hi=>match x.ev sl with
  | .ept (.agg m) [e] 0 0=>match cU sl n hi with
   |some h'=>gd (m==n*k.size&&decide (0≤h')&&decide (h'≤n)) (.sl k .free ((pD k n e).take h'.toNat))
   |none=>none
  |_=>none
 | .mget kS ks z ok x i=>bif (i.ev sl).fits kS then (match x.ev sl with
  | .aAH=>some (iY ok z [] none)
  | .map n=>match h n with
   |some (.mp es _)=>(bM (.plain kS ks) (i.ev sl) es).map (iY ok z es)
   |_=>none
  |_=>none) else none
 | .mlen x=>match x.ev sl with
  | .aAH=>some (.int .i64 0)
  | .map n=>match h n with
   |some (.mp es _)=>some (.int .i64 es.length)
   |_=>none
  |_=>none
 |_=>none
theorem zN{a b:Nat}:(Kh a b=true)=(a<b):=by simp[Ks]
theorem zO{a b:Nat}:(Kq a b=true)=(a≤b):=by simp[KE]
theorem aY.aCu{sl:List V}{h:Hp}{R:V→Prop}{l:aY}{v:V}(e:l.val sl h=some v)(hR:R v):l.sem sl h R:=by
 cases l<;>simp only[aY.val,aY.sem,gd,Gg,Gc,Bool.cond_eq_ite] at e⊢;case eq ng ty x y=>
  cases hv:veq ty (x.ev sl) (y.ev sl)<;>simp_all
 case bin op x y=>
  generalize x.ev sl=a at e⊢;generalize y.ev sl=b at e⊢;cases a<;>cases b<;>simp_all
  ·cases op<;>simp_all [B5]
  cases op<;>simp_all [Br]
 case mget kS ks z ok x i=>
  split at e
  ·rename_i h1;refine⟨h1,?_⟩;generalize x.ev sl=a at e⊢;cases a<;>simp_all
   rename_i n;cases hn:h n with
   |none=>simp[hn] at e
   |some bl=>
    cases bl<;>simp[hn] at e⊢;rename_i es c;cases hm:bM (.plain kS ks) (i.ev sl) es<;>simp_all
  cases e
 all_goals
  repeat' (split at e)
  all_goals cases e
  all_goals try simp only[Kf,KB,Kw,beq_iff_eq,decide_eq_true_eq,zN,zO,Ki] at*
  all_goals first|assumption|(simp_all [bw];done)|(simp_all [bw];first|omega|assumption|(intro h;subst h;simp_all))
def GR(l:Mem)(a:Nat)(own:Own)(ys:List V):Mem:=
 match own with
 | .nil=>bif ys.isEmpty then l else (a, .tip)::l
 | .full=>bif ys.isEmpty then l else (a, .tip)::l
 | .tok n=>(a, .tip)::dlM n l
 | .free=>l
theorem FD{l:Mem}{a:Nat}{own:Own}{ys:List V}:lk (GR l a own ys)=fT (lk l) a own ys:=by
 cases own<;>simp only[GR,fT]<;>(try cases ys.isEmpty)<;>simp[kL,DS]
def Gl(h:Hp):Own→Bool
 | .free=>false
 | .tok n=>match h n with
  |some .tip=>true
  |_=>false
 |_=>true
theorem Fb{h:Hp}{o:Own}(e:Gl h o=true):qY h o:=by
 cases o with
 |tok n=>simp only[Gl] at e;split at e<;>simp_all [qY]
 |free=>cases e
 |_=>trivial
abbrev ER:=Option (V×Mem×Nat)
def gE(b:Bool)(v:V)(l:Mem)(a:Nat):ER:=bif b then some (v,l,a) else none
theorem vU{b:Bool}{v v':V}{l l':Mem}{a a':Nat}(h:gE b v l a=some (v',l',a')):b=true∧v=v'∧l=l'∧a=a':=by
 cases b<;>simp[gE] at h;exact⟨rfl,h⟩
def LOp.stp(sl:List V)(l:Mem)(a:Nat):LOp→ER
 | .val x=>(x.val sl (lk l)).map fun v=>(v,l,a)
 | .box k x=>gE ((x.ev sl).fits k) (.ptr a k 0 0) ((a, .arr k [x.ev sl])::l) (a+1)
 | .bslice k es=>gE (es.all fun e=>(e.ev sl).fits k) (.sl k (.tok a) (es.map (aK.ev sl))) ((a, .tip)::l) (a+1)
 | .append k bytes x y=>match dI (lk l) (y.ev sl) with
  |some (ky,ys)=>match x.ev sl with
   | .sl kx own xs=>gE (ky==k&&kx==k&&Kq ((xs.length+ys.length)*bytes) 140737488355328&&Gl (lk l) own) (.sl k (eR a own ys) (xs++ys)) (GR l a own ys) (a+1)
   |_=>none
  |none=>none
 | .store t x v=>match x.ev sl with
  | .ptr n k i o=>match lk l n with
   |some (.arr k' es)=>gE (k'==k&&Kh i es.length&&j9 k t o&&(v.ev sl).fits t) Ka (upM n (.arr k (es.set i (bW t o (es.getD i Ka) (v.ev sl)))) l) (a+1)
   |_=>none
  |_=>none
 | .mkz k bytes x z=>match x.ev sl with
  | .int _ m=>gE (decide (0≤m)&&Kq (m.toNat*bytes) 140737488355328) (.rs a k 0 (mkN m.toNat z)) ((a, .arr k (mkL m.toNat z))::l) (a+1)
  |_=>none
 | .mp .mk=>some (.map a,(a, .mp [] 0)::l,a+1)
 | .mp (.put kS ks x k v)=>match x.ev sl with
  | .map n=>match lk l n with
   |some (.mp es c)=>bif (k.ev sl).fits kS then (match bM (.plain kS ks) (k.ev sl) es with
    |some (some j)=>some (Ka,upM n (.mp (es.set j ⟨k.ev sl,v.ev sl,(es.getD j default).b⟩) c) l,a+1)
    |some none=>some (Ka,upM n (.mp (es++[⟨k.ev sl,v.ev sl,c⟩]) (c+1)) l,a+1)
    |none=>none) else none
   |_=>none
  |_=>none
 |_=>none
theorem LOp.aFD{P:Program}{sl:List V}{l l':Mem}{a a':Nat}{v:V}{R:V→Hp→Nat→Prop}{o:LOp}(e:o.stp sl l a=some (v,l',a'))(hR:R v (lk l') a'):o.run P sl (lk l) a R:=by
 cases o with
 |val x=>
  simp only[LOp.stp] at e;obtain⟨w,h1,h2⟩:=Ke.1 e;cases h2;exact aY.aCu (R:=fun v=>R v (lk l) a) h1 hR
 |box k x=>
  obtain⟨h1,rfl,rfl,rfl⟩:=vU e;exact⟨h1,by rw[←kL];exact hR⟩
 |bslice k es=>
  obtain⟨h1,rfl,rfl,rfl⟩:=vU e;exact⟨fun x hx=>Ki.1 h1 x hx, .inl (by rw[←kL];exact hR)⟩
 |append k bytes x y=>
  simp only[LOp.stp,Kb,Kd] at e⊢;cases hs:dI (lk l) (y.ev sl) with
  |none=>rw[hs] at e;cases e
  |some p=>
   obtain⟨ky,ys⟩:=p;rw[hs] at e;simp only at e⊢;generalize x.ev sl=xv at e⊢;cases xv<;>first|(cases e;done)|skip
   simp only at e⊢;obtain⟨h1,rfl,rfl,rfl⟩:=vU e;simp only[Kf,beq_iff_eq,zO] at h1;obtain⟨⟨⟨h1,h2⟩,h3⟩,h4⟩:=h1;exact⟨h1,h2,h3, .inl ⟨Fb h4,by rw[←FD];exact hR⟩⟩
 |store t x w=>
  simp only[LOp.stp,Kb,Kd] at e⊢;generalize x.ev sl=xv at e⊢;cases xv<;>first|(cases e;done)|skip
  rename_i n k i o;simp only at e⊢;cases hn:lk l n with
  |none=>rw[hn] at e;cases e
  |some b=>
   rw[hn] at e;cases b<;>first|(cases e;done)|skip
   simp only at e⊢;obtain⟨h1,rfl,rfl,rfl⟩:=vU e;simp only[Kf,beq_iff_eq,zN] at h1;obtain⟨⟨⟨h1,h2⟩,h3⟩,h4⟩:=h1;exact⟨h1,h2,bw h3,h4,by rw[←AK];exact hR⟩
 |mkz k bytes x z=>
  simp only[LOp.stp,Kb,Kd] at e⊢;generalize x.ev sl=xv at e⊢;cases xv<;>first|(cases e;done)|skip
  simp only at e⊢;obtain⟨h1,rfl,rfl,rfl⟩:=vU e;simp only[Kf,decide_eq_true_eq,zO] at h1;exact⟨h1.1,h1.2, .inl (by rw[←kL];exact hR)⟩
 |mp m=>
  cases m<;>first|(cases e;done)|skip
  ·simp only[LOp.stp,Option.some.injEq,Prod.mk.injEq] at e;obtain⟨rfl,rfl,rfl⟩:=e;exact show R _ _ _ by rw[←kL];exact hR
  rename_i kS ks x k w;simp only[LOp.stp,Kb,Kd,MOp.sem] at e⊢;generalize x.ev sl=xv at e⊢;cases xv<;>first|(cases e;done)|skip
  rename_i n;simp only at e⊢;cases hn:lk l n with
  |none=>rw[hn] at e;cases e
  |some b=>
   rw[hn] at e;cases b<;>first|(cases e;done)|skip
   rename_i es c;simp only at e⊢;cases hf:(k.ev sl).fits kS with
   |false=>rw[hf] at e;cases e
   |true=>
    rw[hf] at e;refine⟨rfl,?_⟩;simp only[cond_true] at e;cases hm:bM (.plain kS ks) (k.ev sl) es with
    |none=>rw[hm] at e;cases e
    |some r=>
     rw[hm] at e;cases r with
     |none=>
      simp only[Option.some.injEq,Prod.mk.injEq] at e;obtain⟨rfl,rfl,rfl⟩:=e;exact show R _ _ _ by rw[←AK];exact hR
     |some j=>
      simp only[Option.some.injEq,Prod.mk.injEq] at e;obtain⟨rfl,rfl,rfl⟩:=e;exact show R _ _ _ by rw[←AK];exact hR
 |_=>cases e
structure ES where
 sl:List V
 l:Mem
 a:Nat
def ES.st(s:ES):St:=⟨s.sl,lk s.l,s.a⟩
abbrev EC:=Nat→List V→Mem→Nat→ER
def evO(call:EC)(sl:List V)(l:Mem)(a:Nat):LOp→ER
 | .call f args=>call f (args.map (aK.ev sl)) l a
 | .callv x args=>match x.ev sl with
  | .fn (.func f) first cap=>call f (first++args.map (aK.ev sl)++cap) l a
  |_=>none
 |o=>o.stp sl l a
def evR(call:EC)(sl:List V)(l:Mem)(a:Nat)(o:aA):ER:=
 match o.g with
 |none=>evO call sl l a o.op
 |some (t,want)=>match sl.getD t Ka with
  | .bool b=>bif b==want then evO call sl l a o.op else some (Ka,l,a)
  | .tup _=>some (Ka,l,a)
  |_=>none
def ES.put(s:ES)(dst:Option Nat)(r:V×Mem×Nat):ES:=⟨bH s.sl dst r.1,r.2.1,r.2.2⟩
def evL(call:EC):List aA→ES→Option ES
 | [],s=>some s
 |o::r,s=>(evR call s.sl s.l s.a o).bind fun x=>evL call r (s.put o.dst x)
def p9(P:Program)(call:EC):Prop:=∀f args l a v l' a',call f args l a=some (v,l',a')→aR P f args (lk l) a fun v' h' nx'=>v'=v∧h'=lk l'∧nx'=a'
section
variable{P:Program}{call:EC}(hc:p9 P call)
include hc
theorem FK{sl:List V}{l l':Mem}{a a':Nat}{v:V}{R:V→Hp→Nat→Prop}{o:LOp}(e:evO call sl l a o=some (v,l',a'))(hR:R v (lk l') a'):o.run P sl (lk l) a R:=by
 cases o with
 |call f args=>exact(hc _ _ _ _ _ _ _ e).mono (fun _ _ _ _ ⟨h1,h2,h3⟩=>by rw[h1,h2,h3];exact hR)
 |callv x args=>
  simp only[evO,Kb] at e⊢;generalize x.ev sl=xv at e⊢;cases xv<;>first|(cases e;done)|skip
  rename_i f first cap
  cases f<;>first|(cases e;done)|skip
  exact(hc _ _ _ _ _ _ _ e).mono (fun _ _ _ _ ⟨h1,h2,h3⟩=>by rw[h1,h2,h3];exact hR)
 |_=>exact LOp.aFD e hR
theorem LOp.aCw{sl sl':List V}{h:Hp}{a:Nat}{R:V→Hp→Nat→Prop}{o:LOp}(ha:dS sl sl' o.aAC):o.run P sl h a R↔o.run P sl' h a R:=by
 cases o with
 |val x=>exact aY.aBo (R:=fun v=>R v h a) ha
 |call f args=>simp only[Kb,gH (xs:=args) ha]
 |callv x args=>simp only[Kb,aK.aAA (x:=x) ha.left,gH (xs:=args) ha.right]
 |callw f args fl=>exact Iff.rfl
 |box k x=>simp only[Kb,Kd,aK.aAA (x:=x) ha]
 |bslice k es=>
  have e:∀p∈es,p.ev sl=p.ev sl':=fun p hp=>aK.aAA fun t ht=>ha t (List.mem_flatMap.2 ⟨p,hp,ht⟩);have e2:(∀x∈es,(x.ev sl).fits k=true)↔∀x∈es,(x.ev sl').fits k=true:=⟨fun h x hx=>by rw[←e x hx];exact h x hx,fun h x hx=>by rw[e x hx];exact h x hx⟩;simp only[Kb,Kd,gH (xs:=es) ha,e2]
 |append k b x y=>simp only[Kb,Kd,aK.aAA (x:=x) ha.left,aK.aAA (x:=y) ha.right]
 |store t x v=>simp only[Kb,Kd,aK.aAA (x:=x) ha.left,aK.aAA (x:=v) ha.right]
 |mkz k b x z=>simp only[Kb,Kd,aK.aAA (x:=x) ha]
 |appz k b x y z=>simp only[Kb,Kd,aK.aAA (x:=x) ha.left,aK.aAA (x:=y) ha.right]
 |clear k x z=>simp only[Kb,Kd,aK.aAA (x:=x) ha]
 |mp m=>
  cases m with
  |mk=>exact Iff.rfl
  |put kS ks x k v=>simp only[Kb,Kd,MOp.sem,aK.aAA (x:=x) ha.left,aK.aAA (x:=k) (dS.left ha.right),aK.aAA (x:=v) (dS.right ha.right)]
  |ent kS ks z x k=>simp only[Kb,Kd,MOp.sem,aK.aAA (x:=x) ha.left,aK.aAA (x:=k) ha.right]
  |est x s v=>simp only[Kb,Kd,MOp.sem,aK.aAA (x:=x) ha.left,aK.aAA (x:=s) (dS.left ha.right),aK.aAA (x:=v) (dS.right ha.right)]
  |del kS ks x k=>simp only[Kb,Kd,MOp.sem,aK.aAA (x:=x) ha.left,aK.aAA (x:=k) ha.right]
  |rng x=>simp only[Kb,Kd,MOp.sem,aK.aAA (x:=x) ha]
  |nxt x=>simp only[Kb,Kd,MOp.sem,aK.aAA (x:=x) ha]
  |key x=>simp only[Kb,Kd,MOp.sem,aK.aAA (x:=x) ha]
theorem zV{o:aA}{sl sl':List V}{l l':Mem}{a a':Nat}{v:V}{r:List aA}{Q:St→Prop}(e:evR call sl l a o=some (v,l',a'))(ha:dS sl sl' o.aAC)(hQ:aZ P r Q ⟨bH sl' o.dst v,lk l',a'⟩):aZ P (o::r) Q ⟨sl',lk l,a⟩:=by
 unfold aA.aAC at ha;simp only[evR,aZ] at e⊢;have go:evO call sl l a o.op=some (v,l',a')→o.op.run P sl' (lk l) a fun v h' nx'=>aZ P r Q ⟨bH sl' o.dst v,h',nx'⟩:=fun e=>(LOp.aCw hc ha.right).1 (FK hc e hQ);split at e
 ·rename_i hg;rw[hg];exact go e
 rename_i t want hg;rw[hg] at ha⊢;have ht:sl.getD t Ka=sl'.getD t Ka:=ha t Zm;rw[ht] at e;simp only;generalize sl'.getD t Ka=gv at e⊢;cases gv<;>first|(cases e;done)|skip
 ·rename_i b;simp only at e⊢;by_cases hb:b=want
  ·rw[if_pos hb];subst hb;simp only[beq_self_eq_true,cond_true] at e;exact go e
  rw[if_neg hb];rw[beq_false_of_ne hb] at e;simp only[cond_false,Option.some.injEq,Prod.mk.injEq] at e;obtain⟨rfl,rfl,rfl⟩:=e;exact hQ
 simp only[Option.some.injEq,Prod.mk.injEq] at e;obtain⟨rfl,rfl,rfl⟩:=e;exact hQ
theorem pd{Q:St→Prop}:∀{r:List aA} {s s':ES},evL call r s=some s'→Q s'.st→aZ P r Q s.st
 | [],s,s',e,hQ=>by cases e;exact hQ
 |o::r,s,s',e,hQ=>by
  obtain⟨⟨v,l',a'⟩,h1,h2⟩:=Kg.1 e;exact zV hc h1 (fun _ _=>rfl) (pd h2 hQ)
end
theorem Hl{s t:ByteArray}(h:s.data.toList=t.data.toList):s=t:=by
 obtain⟨⟨a⟩⟩:=s;obtain⟨⟨b⟩⟩:=t;simp only at h;rw[h]
mutual
def eqV:V→V→Bool
 | .bool a, .bool b=>a==b
 | .int k n, .int k' m=>k==k'&&n==m
 | .str s, .str t=>s.data.toList==t.data.toList
 | .nilPtr, .nilPtr=>true
 | .ptr n k i o, .ptr n' k' i' o'=>n==n'&&k==k'&&i==i'&&o==o'
 | .ept k es i o, .ept k' es' i' o'=>k==k'&&i==i'&&o==o'&&iw es es'
 | .sl k w es, .sl k' w' es'=>k==k'&&w==w'&&iw es es'
 | .rs n k i o, .rs n' k' i' o'=>n==n'&&k==k'&&i==i'&&o==o'
 | .aAH, .aAH=>true
 | .map n, .map m=>n==m
 | .iface t v, .iface t' v'=>t==t'&&eqV v v'
 | .nilIface, .nilIface=>true
 | .aAV, .aAV=>true
 | .agg l, .agg l'=>iw l l'
 | .tup l, .tup l'=>iw l l'
 |_,_=>false
def iw:List V→List V→Bool
 | [],[]=>true
 |x::xs,y::ys=>eqV x y&&iw xs ys
 |_,_=>false
end
mutual
theorem zh:∀{a b:V},eqV a b=true→a=b:=by
 intro a b h
 cases a<;>cases b<;>simp only[eqV,Kf,beq_iff_eq,Kt] at h<;>first
  |rfl|(cases h;done)|(subst h;rfl)|(rw[Hl h])
  |(obtain⟨⟨⟨rfl,rfl⟩,rfl⟩,rfl⟩:=h;rfl)
  |(obtain⟨⟨⟨rfl,rfl⟩,rfl⟩,h⟩:=h;rw[rS h])
  |(obtain⟨⟨rfl,rfl⟩,h⟩:=h;rw[rS h])
  |(obtain⟨rfl,h⟩:=h;first|rw[zh h]|(subst h;rfl))
  |(rw[rS h])
theorem rS:∀{a b:List V},iw a b=true→a=b:=by
 intro a b h
 cases a<;>cases b<;>simp only[iw,Kf,Kt] at h<;>first
  |rfl|(cases h;done)|(rw[zh h.1,rS h.2])
end
abbrev HD:=List (aA×List Nat)
def isM(o:aA):Bool:=match o.op with
 | .val _=>false
 |_=>true
def rdM(o:aA):Bool:=match o.op with
 | .val (.load _ _)=>true
 | .val (.mget _ _ _ _ _ _)=>true
 | .val (.mlen _)=>true
 |_=>false
def Gp(call:EC):HD→ES→Option (List ES)
 | [],s=>some [s]
 |(o,_)::r,s=>(evR call s.sl s.l s.a o).bind fun x=>(Gp call r (s.put o.dst x)).map (s:: ·)
def oe(hd:HD)(q:Nat→aA→List Nat→Bool):Bool:=(KF hd.length).all fun i=>match hd[i]? with
 |some (o,aAG)=>q i o aAG
 |none=>true
def Hi(call:EC)(hd:HD)(ss:List ES)(s:ES)(F:List V):Bool:=
 oe hd fun i o aAG=>aAG.all (fun d=>Kh d i)&&(match o.dst with
  |some t=>Kh t s.sl.length
  |none=>true)&&
  (oe hd fun j o' _=>o.aAC.all fun t=>o'.dst != some t||aAG.contains j)&&
  (oe hd fun j o' _=>i==j||o.dst.isNone||o.dst != o'.dst)&&
  (!isM o||oe hd fun j o' _=> !Kh j i|| !isM o'||aAG.contains j)&&
  (!rdM o||(KF (hd.length+1)).all fun p=>
    (!oe hd fun k o' aAI=> !isM o'||(!(aAG.contains k&&Kq p k)&& !(Kh k p&&aAI.contains i)))||
    (match evR call (ss.getD i s).sl (ss.getD p s).l (ss.getD p s).a o with
      |some (v,_,_)=>match o.dst with
       |some t=>eqV v (F.getD t Ka)
       |none=>true
      |none=>false))
def evD(call:EC)(hd:HD)(s:ES):Option ES:=
 (Gp call hd s).bind fun ss=>bif Hi call hd ss s (ss.getD hd.length s).sl then some (ss.getD hd.length s) else none
theorem zM{hd:HD}{q:Nat→aA→List Nat→Bool}(h:oe hd q=true){i:Nat}{o:aA}{aAG:List Nat}(hi:hd[i]?=some (o,aAG)):q i o aAG=true:=by
 unfold oe at h;have h1:i<hd.length:=by
  rcases KD i hd.length with h|h
  ·exact h
  rw[Ko h] at hi;cases hi
 have:=Ki.1 h i (KC.2 h1);rw[hi] at this;exact this
theorem Fh{hd:HD}{q:Nat→aA→List Nat→Bool}(h:oe hd q=false):∃i o aAG,hd[i]?=some (o,aAG)∧q i o aAG=false:=by
 unfold oe at h;obtain⟨i,h1,h2⟩:=List.all_eq_false.1 h;cases hi:hd[i]? with
 |none=>rw[hi] at h2;simp at h2
 |some p=>exact⟨i,p.1,p.2,hi,by rw[hi] at h2;simpa using h2⟩
theorem rz{sl:List V}{d:Option Nat}{v:V}:(bH sl d v).length=sl.length:=by cases d<;>simp[bH]
theorem n8{sl:List V}{d:Option Nat}{v:V}{t:Nat}(h:d≠some t):(bH sl d v).getD t Ka=sl.getD t Ka:=by
 cases d with
 |none=>rfl
 |some d=>
  have:d≠t:=fun e=>h (by rw[e]);simp[bH,Kj,Kx,this]
theorem Ax{sl:List V}{t:Nat}{v:V}(h:t<sl.length):(bH sl (some t) v).getD t Ka=v:=by
 simp[bH,Kj,Kx,h]
theorem jz{call:EC}:∀{hd:HD} {s:ES} {ss:List ES},Gp call hd s=some ss→(∃r,ss=s::r)∧
 ∀i o aAG,hd[i]?=some (o,aAG)→∀d,∃x,evR call (ss.getD i d).sl (ss.getD i d).l (ss.getD i d).a o=some x∧ss.getD (i+1) d=(ss.getD i d).put o.dst x
 | [],s,ss,h=>by cases h;exact⟨⟨[],rfl⟩,fun i o aAG hi=>by cases hi⟩
 |(o,dp)::r,s,ss,h=>by
  obtain⟨x,h1,h2⟩:=Kg.1 h;obtain⟨ss',h3,rfl⟩:=Ke.1 h2;obtain⟨⟨q,g1⟩,g2⟩:=jz h3;refine⟨⟨_,rfl⟩,fun i o' aAG hi d=>?_⟩;cases i with
  |zero=>cases hi;exact⟨x,h1,by rw[g1];rfl⟩
  |succ i=>exact g2 i o' aAG (by simpa using hi) d
theorem mi{call:EC}{sl:List V}{l:Mem}{a:Nat}{o:aA}{x:V×Mem×Nat}(hm:isM o=false)(h:evR call sl l a o=some x):x.2.1=l∧x.2.2=a:=by
 unfold isM at hm;split at hm
 ·rename_i y hy;unfold evR at h;rw[hy] at h;have go:evO call sl l a (.val y)=some x→x.2.1=l∧x.2.2=a:=fun e=>by
   obtain⟨v,_,rfl⟩:=Ke.1 e;exact⟨rfl,rfl⟩
  split at h
  ·exact go h
  split at h
  ·rename_i b _;cases hb:b==_ with
   |true=>rw[hb] at h;exact go h
   |false=>rw[hb] at h;cases h;exact⟨rfl,rfl⟩
  ·cases h;exact⟨rfl,rfl⟩
  cases h
 cases hm
theorem En{call:EC}{sl:List V}{l l':Mem}{a a':Nat}{o:aA}{x:V×Mem×Nat}(hm:isM o=false)(hr:rdM o=false)(h:evR call sl l a o=some x):evR call sl l' a' o=some (x.1,l',a'):=by
 unfold isM at hm;unfold rdM at hr;split at hm
 ·rename_i y hy;unfold evR at h⊢;rw[hy] at h hr⊢;have go:evO call sl l a (.val y)=some x→evO call sl l' a' (.val y)=some (x.1,l',a'):=fun e=>by
   obtain⟨v,h1,rfl⟩:=Ke.1 e;have:y.val sl (lk l')=y.val sl (lk l):=by cases y<;>first|rfl|(cases hr;done)
   simp only[evO,LOp.stp,this,h1,Option.map_some]
  split at h
  ·exact go h
  split at h
  ·rename_i b _;cases hb:b==_ with
   |true=>rw[hb] at h;exact go h
   |false=>rw[hb] at h;cases h;rfl
  ·cases h;rfl
  cases h
 cases hm
theorem FO{P:Program}{call:EC}(hc:p9 P call){hd:HD}{tl:List aA}{s s':ES}{Q:St→Prop}(e:evD call hd s=some s')(hQ:aZ P tl Q s'.st):AX P hd tl Q s.st:=by
 obtain⟨ss,aAg,e⟩:=Kg.1 e;cases hk:Hi call hd ss s (ss.getD hd.length s).sl with
 |false=>rw[hk] at e;cases e
 |true=>
 rw[hk] at e;cases e;obtain⟨⟨q0,hq0⟩,aBj⟩:=jz aAg;obtain⟨S,hS⟩:∃S:Nat→ES,∀i,ss.getD i s=S i:=⟨_,fun _=>rfl⟩;have hS0:S 0=s:=by rw[←hS,hq0];rfl
 have hst:∀i o aAG,hd[i]?=some (o,aAG)→∃x,evR call (S i).sl (S i).l (S i).a o=some x∧S (i+1)=(S i).put o.dst x:=fun i o aAG h=>by
  have:=aBj i o aAG h s;rwa [hS,hS] at this
 obtain⟨n,hn⟩:∃n,hd.length=n:=⟨_,rfl⟩;rw[hn,hS] at hk hQ;have hlt:∀{i o aAG},hd[i]?=some (o,aAG)→i<n:=fun{i o aAG} h=>by
  rcases KD i n with h1|h1
  ·exact h1
  rw[Ko or] at h;cases h
 have hget:∀i,i<n→∃o aAG,hd[i]?=some (o,aAG):=fun i h=>⟨_,_,Km or⟩
 have hck:∀{i o aAG},hd[i]?=some (o,aAG)→(∀d∈aAG,d<i)∧(∀t,o.dst=some t→t<s.sl.length)∧
  (∀j o' aAI,hd[j]?=some (o',aAI)→∀t∈o.aAC,o'.dst=some t→j∈aAG)∧(∀j o' aAI,hd[j]?=some (o',aAI)→i≠j→∀t,o.dst=some t→o'.dst≠some t)∧
  (isM o=true→∀j o' aAI,hd[j]?=some (o',aAI)→j<i→isM o'=true→j∈aAG)∧
  (rdM o=true→∀p,p≤n→(∃k o' aAI,hd[k]?=some (o',aAI)∧isM o'=true∧((k∈aAG∧p≤k)∨(k<p∧i∈aAI)))∨
    ∃v l a,evR call (S i).sl (S p).l (S p).a o=some (v,l,a)∧∀t,o.dst=some t→v=(S n).sl.getD t Ka):=fun{i o aAG} hi=>by
  have h:=zM hk hi;simp only[Kf,KB,Kw,Ki] at h;obtain⟨⟨⟨⟨⟨h1,h2⟩,h3⟩,h4⟩,h5⟩,h6⟩:=h;refine⟨fun d hd=>by simpa [Ks] using h1 d hd,fun t ht=>?_,fun j o' aAI hj t ht hd=>?_,fun j o' aAI hj hne t ht hd=>?_,fun hm j o' aAI hj hji hm'=>?_,fun hr p hp=>?_⟩
  ·rw[ht] at h2;simpa [Ks] using h2
  ·have:=Ki.1 (zM h3 hj) t ht;simpa [hd] using this
  ·have:=zM h4 hj;simp[hne,ht,hd] at this
  ·rcases h5 with h5|h5
   ·rw[hm] at h5;cases h5
   have:=zM h5 hj;have hb:Kh j i=true:=by rw[zN];exact hji
   simpa [hm',hb] using this
  rcases h6 with h6|h6
  ·rw[hr] at h6;cases h6
  rcases h6 p (KC.2 or) with h|h
  ·obtain⟨k,o',aAI,hk',h⟩:=Fh h;simp only[Bool.or_eq_false_iff,Ku,Bool.and_eq_false_iff,Ku,Kf,List.contains_iff_mem,zO,zN] at h;exact .inl ⟨k,o',aAI,hk',h.1,h.2⟩
  rw[hS,hS] at h;split at h
  ·rename_i v l a hv;refine .inr ⟨v,l,a,hv,fun t ht=>?_⟩;rw[ht] at h;exact zh h
  cases h
 have hlen:∀i,i≤n→(S i).sl.length=s.sl.length:=by
  intro i;induction i with
  |zero=>intro _;rw[hS0]
  |succ i ih=>
   intro h;obtain⟨o,aAG,ho⟩:=hget i or;obtain⟨x,_,h2⟩:=hst i o aAG ho;rw[h2,←ih or];exact rz
 have aFY:∀t i i',i≤i'→i'≤n→(∀j o aAG,hd[j]?=some (o,aAG)→i≤j→j<i'→o.dst≠some t)→(S i').sl.getD t Ka=(S i).sl.getD t Ka:=by
  intro t i i' h;induction h with
  |refl=>intros;rfl
  |@step m hm ih=>
   intro hle hno;obtain⟨o,aAG,ho⟩:=hget m or;obtain⟨x,_,h2⟩:=hst m o aAG ho;rw[←ih or fun j o aAG hj h1 h2=>hno j o aAG hj h1 or,h2];exact n8 (hno m o aAG ho hm or)
 have aAi:∀j o aAG t,hd[j]?=some (o,aAG)→o.dst=some t→∀i,j<i→i≤n→(S i).sl.getD t Ka=(S n).sl.getD t Ka:=fun j o aAG t hj ht i hji hi=>by
  refine(aFY t i n hi (Kk _) fun k o' aAI hk' h1 h2=>?_).symm;exact(hck hj).2.2.2.1 k o' aAI hk' or t ht
 have aAq:∀p p',p≤p'→p'≤n→(∀k o aAG,hd[k]?=some (o,aAG)→p≤k→k<p'→isM o=false)→(S p').l=(S p).l∧(S p').a=(S p).a:=by
  intro p p' h;induction h with
  |refl=>intros;exact⟨rfl,rfl⟩
  |@step m hm ih=>
   intro hle hno;obtain⟨o,aAG,ho⟩:=hget m or;obtain⟨x,h1,h2⟩:=hst m o aAG ho;obtain⟨g1,g2⟩:=ih or fun k o aAG hk h1 h2=>hno k o aAG hk h1 or;obtain⟨q1,q2⟩:=mi (hno m o aAG ho hm or) h1;rw[h2];exact⟨q1.trans g1,q2.trans g2⟩
 refine⟨fun D s'=>s'.sl.length=s.sl.length∧(∀j o aAG t,hd[j]?=some (o,aAG)→D j=true→o.dst=some t→s'.sl.getD t Ka=(S n).sl.getD t Ka)∧
  (∀t,(∀j o aAG,hd[j]?=some (o,aAG)→D j=true→o.dst≠some t)→s'.sl.getD t Ka=s.sl.getD t Ka)∧
  ∃p,p≤n∧(∀k o aAG,hd[k]?=some (o,aAG)→isM o=true→(D k=true↔k<p))∧s'.h=lk (S p).l∧s'.nx=(S p).a,?_,?_,?_⟩
 ·refine⟨rfl,?_,fun _ _=>rfl,0,Ky _,?_,?_,?_⟩
  ·intro j o aAG t _ h;cases h
  ·intro k o aAG _ _;exact⟨fun h=>(by cases h),fun h=>absurd h (Nat.not_lt_zero _)⟩
  ·rw[hS0];rfl
  rw[hS0];rfl
 ·rintro D i o aAG ⟨sl',h',nx'⟩ hi hDi aAw hcl ⟨g1,g2,g3,p,hp,g4,g5,g6⟩;simp only at g1 g2 g3 g5 g6;subst g5 g6;have hin:=hlt hi;obtain⟨c1,c2,c3,c4,c5,c6⟩:=hck hi;obtain⟨x,hx1,hx2⟩:=hst i o aAG hi;have hal:dS (S i).sl sl' o.aAC:=fun t ht=>by
   by_cases hex:∃(j:Nat) (o':aA) (aAI:List Nat),hd[j]?=some (o',aAI)∧o'.dst=some t
   ·obtain⟨j,o',aAI,hj,hjt⟩:=hex;have hjd:=c3 j o' aAI hj t ht hjt;rw[g2 j o' aAI t hj (aAw j hjd) hjt,aAi j o' aAI t hj hjt i (c1 j hjd) or]
   have hno:∀(j:Nat) (o':aA) (aAI:List Nat),hd[j]?=some (o',aAI)→o'.dst≠some t:=fun j o' aAI hj hjt=>hex ⟨j,o',aAI,hj,hjt⟩;rw[aFY t 0 i (Ky _) or fun j o' aAI hj _ _=>hno j o' aAI hj,hS0,g3 t fun j o' aAI hj _=>hno j o' aAI hj]
  have hv:∀t,o.dst=some t→x.1=(S n).sl.getD t Ka:=fun t ht=>by
   rw[←aAi i o aAG t hi ht (i+1) or or,hx2];show _=(bH _ o.dst x.1).getD t Ka;rw[ht,Ax (by rw[hlen i or];exact c2 t ht)]
  have done:∀(v:V) (p':Nat),p'≤n→(∀t,o.dst=some t→v=(S n).sl.getD t Ka)→(∀k o' aAI,hd[k]?=some (o',aAI)→isM o'=true→((if k=i then true else D k)=true↔k<p'))→
   aZ P [] (fun s':St=>s'.sl.length=s.sl.length∧(∀j o aAG t,hd[j]?=some (o,aAG)→(if j=i then true else D j)=true→o.dst=some t→s'.sl.getD t Ka=(S n).sl.getD t Ka)∧
    (∀t,(∀j o aAG,hd[j]?=some (o,aAG)→(if j=i then true else D j)=true→o.dst≠some t)→s'.sl.getD t Ka=s.sl.getD t Ka)∧
    ∃p,p≤n∧(∀k o aAG,hd[k]?=some (o,aAG)→isM o=true→((if k=i then true else D k)=true↔k<p))∧s'.h=lk (S p).l∧s'.nx=(S p).a) ⟨bH sl' o.dst v,lk (S p').l,(S p').a⟩:=fun v p' hp' hv hM=>by
   refine⟨rz.trans g1,fun j o' aAI t hj hD ht=>?_,fun t hno=>?_,p',hp',hM,rfl,rfl⟩
   ·by_cases hji:j=i
    ·subst hji;rw[hi] at hj;cases hj;rw[←hv t ht,ht];exact Ax (by rw[g1];exact c2 t ht)
    rw[if_neg hji] at hD;rw[←g2 j o' aAI t hj hD ht];exact n8 fun e=>c4 j o' aAI hj (fun e=>hji e.symm) t e ht
   rw[←g3 t fun j o' aAI hj hD=>hno j o' aAI hj (by split<;>first|rfl|exact hD)]
   exact n8 (hno i o aAG hi (by rw[if_pos rfl]))
  cases hm:isM o with
  |true=>
   --all memory's operations cW are done,none zz
   have aAZ:∀k o' aAI,hd[k]?=some (o',aAI)→isM o'=true→(D k=true↔k<i):=fun k o' aAI hk' hm'=>by
    refine⟨fun hD=>?_,fun hki=>aAw k (c5 hm k o' aAI hk' hki hm')⟩;rcases Nat.lt_trichotomy k i with h|h|h
    ·exact h
    ·subst h;rw[hDi] at hD;cases hD
    have:=(hck hk').2.2.2.2.1 hm' i o aAG hi h hm;rw[hcl k o' aAI hk' hD i this] at hDi;cases hDi
   have hpi:(S p).l=(S i).l∧(S p).a=(S i).a:=by
    rcases Nat.le_total p i with h|h
    ·have:=aAq p i h or fun k o' aAI hk' h1 h2=>by
      cases hmk:isM o' with
      |false=>rfl
      |true=>have:=(g4 k o' aAI hk' hmk).1 ((aAZ k o' aAI hk' hmk).2 h2);omega
     exact⟨this.1.symm,this.2.symm⟩
    exact aAq i p h hp fun k o' aAI hk' h1 h2=>by
     cases hmk:isM o' with
     |false=>rfl
     |true=>have:=(aAZ k o' aAI hk' hmk).1 ((g4 k o' aAI hk' hmk).2 h2);omega
   rw[hpi.1,hpi.2];have h3:=done x.1 (i+1) or hv fun k o' aAI hk' hm'=>by
    by_cases hki:k=i
    ·simp[hki]
    rw[if_neg hki,aAZ k o' aAI hk' hm'];omega
   rw[hx2] at h3;exact zV hc hx1 hal h3
  |false=>
   have h3:∀v,(∀t,o.dst=some t→v=(S n).sl.getD t Ka)→_:=fun v hv=>done v p hp hv fun k o' aAI hk' hm'=>by
    have hki:k≠i:=by rintro rfl;rw[hi] at hk';cases hk';rw[hm] at hm';cases hm'
    rw[if_neg hki];exact g4 k o' aAI hk' hm'
   cases hr:rdM o with
   |false=>
    have:=En (l':=(S p).l) (a':=(S p).a) hm hr hx1;exact zV hc this hal (h3 x.1 hv)
   |true=>
    rcases c6 hr p hp with⟨k,o',aAI,hk',hm',h⟩|⟨v,l,a,he,hvv⟩
    ·exfalso;rcases h with⟨h1,h2⟩|⟨h1,h2⟩
     ·have:=(g4 k o' aAI hk' hm').1 (aAw k h1);omega
     rw[hcl k o' aAI hk' ((g4 k o' aAI hk' hm').2 h1) i h2] at hDi;cases hDi
    obtain⟨q1,q2⟩:=mi hm he;simp only at q1 q2;subst q1 q2;exact zV hc he hal (h3 v hvv)
 rintro D ⟨sl',h',nx'⟩ hD ⟨g1,g2,g3,p,hp,g4,g5,g6⟩;simp only at g1 g2 g3 g5 g6;subst g5 g6;obtain⟨e1,e2⟩:=aAq p n hp (Kk _) fun k o aAG hk' h1 h2=>by
  cases hmk:isM o with
  |false=>rfl
  |true=>have:=(g4 k o aAG hk' hmk).1 (hD k or);omega
 have e3:sl'=(S n).sl:=by
  refine List.ext_getElem (by rw[g1,hlen n (Kk _)]) fun t h1 h2=>?_;have hgd:∀l:List V,(h:t<l.length)→l[t]=l.getD t Ka:=fun l h=>by rw[Kj,Km h];rfl
  rw[hgd _ h1,hgd _ h2];by_cases hex:∃(j:Nat) (o':aA) (aAI:List Nat),hd[j]?=some (o',aAI)∧o'.dst=some t
  ·obtain⟨j,o',aAI,hj,hjt⟩:=hex;exact g2 j o' aAI t hj (hD j (by have:=hlt hj;omega)) hjt
  have hno:∀(j:Nat) (o':aA) (aAI:List Nat),hd[j]?=some (o',aAI)→o'.dst≠some t:=fun j o' aAI hj hjt=>hex ⟨j,o',aAI,hj,hjt⟩;rw[g3 t fun j o' aAI hj _=>hno j o' aAI hj,aFY t 0 n (Ky _) (Kk _) fun j o' aAI hj _ _=>hno j o' aAI hj,hS0]
 rw[e3,←e1,←e2];exact hQ
abbrev EX:=Option (bL×ES)
def ub:Nat→(ES→EX)→ES→EX
 |0,_,_=>none
 |n+1,f,s=>match f s with
  |some (.normal,s)=>ub n f s
  |r=>r
def evC(call:EC)(fl:Nat):aS→ES→EX
 | .skip,s=>some (.normal,s)
 | .ops l,s=>(evL call l s).map (.normal, ·)
 | .draw _ hd tl,s=>((evD call hd s).bind (evL call tl)).map (.normal, ·)
 | .seq a b,s=>match evC call fl a s with
  |some (.normal,s)=>evC call fl b s
  |r=>r
 | .cond c a b,s=>match c.ev s.sl with
  | .bool t=>bif t then evC call fl a s else evC call fl b s
  |_=>none
 | .block id c,s=>match evC call fl c s with
  |some (.exit i,s)=>bif i==id then some (.normal,s) else some (.exit i,s)
  |r=>r
 | .loop c,s=>ub fl (evC call fl c) s
 | .exit id,s=>some (.exit id,s)
 | .ret,s=>some (.ret,s)
 | .range _ _ _ _,_=>none
theorem B1{P:Program}{c:aS}{f:ES→EX}{Q:bL→St→Prop}{r:bL×ES}(hf:∀s x,f s=some x→∀Q:bL→St→Prop,Q x.1 x.2.st→lwp P c Q s.st)(hQ:Q r.1 r.2.st){n:Nat}{s:ES}(e:ub n f s=some r):lwp P (.loop c) Q s.st:=by
 refine vE (ι:=Nat×ES) (fun i=>ub i.1 f i.2=some r) (fun i=>i.2.st) (fun i=>i.1) (n,s) e (Wk.refl _) ?_;rintro⟨n,s⟩ e;cases n with
 |zero=>cases e
 |succ n=>
  simp only[ub] at e;split at e
  ·rename_i s1 h;exact hf _ _ h _ (nM (n,s1) e (Nat.lt_succ_self _) (Wk.refl _))
  rename_i h;refine hf _ _ e _ ?_;obtain⟨x,s1⟩:=r;cases x with
  |normal=>exact absurd e (h _)
  |exit id=>exact kR hQ
  |ret=>exact jW hQ
theorem lN{P:Program}{call:EC}(hc:p9 P call){fl:Nat}:∀(c:aS) (s:ES) (x:bL×ES),evC call fl c s=some x→∀Q:bL→St→Prop,Q x.1 x.2.st→lwp P c Q s.st
 | .skip,s,x,e,Q,hQ=>by cases e;exact hQ
 | .ops l,s,x,e,Q,hQ=>by
  obtain⟨s1,h1,rfl⟩:=Ke.1 e;exact pd hc (Q:=Q .normal) h1 hQ
 | .draw n hd tl,s,x,e,Q,hQ=>by
  obtain⟨s1,h1,rfl⟩:=Ke.1 e;obtain⟨s2,h2,h3⟩:=Kg.1 h1;exact rM (FO hc h2 (pd hc (Q:=Q .normal) h3 hQ))
 | .seq a b,s,x,e,Q,hQ=>by
  simp only[evC] at e;split at e
  ·rename_i s1 h;exact bG (lN hc a s _ h _ (aW (lN hc b s1 x e Q hQ)))
  rename_i h;refine bG (lN hc a s _ e _ ?_);obtain⟨x,s1⟩:=x;cases x with
  |normal=>exact absurd e (h _)
  |exit id=>exact lR hQ
  |ret=>exact lZ hQ
 | .cond c a b,s,x,e,Q,hQ=>by
  simp only[evC] at e;split at e
  ·rename_i t h;refine cY t h (fun ht=>?_) fun ht=>?_
   ·subst ht;exact lN hc a s x e Q hQ
   subst ht;exact lN hc b s x e Q hQ
  cases e
 | .block id c,s,x,e,Q,hQ=>by
  simp only[evC] at e;split at e
  ·rename_i i s1 h;refine bE (lN hc c s _ h _ ?_);by_cases hi:i=id
   ·subst hi;simp only[beq_self_eq_true,cond_true,Option.some.injEq] at e;subst e;exact gG hQ
   rw[beq_false_of_ne hi] at e;simp only[cond_false,Option.some.injEq] at e;subst e;exact cD hi hQ
  rename_i h;refine bE (lN hc c s _ e _ ?_);obtain⟨x,s1⟩:=x;cases x with
  |normal=>exact aT hQ
  |exit id=>exact absurd e (h _ _)
  |ret=>exact iF hQ
 | .loop c,s,x,e,Q,hQ=>B1 (fun s x e Q hQ=>lN hc c s x e Q hQ) hQ e
 | .exit id,s,x,e,Q,hQ=>by cases e;exact hQ
 | .ret,s,x,e,Q,hQ=>by cases e;exact hQ
 | .range _ _ _ _,s,x,e,Q,hQ=>by cases e
def AW(s:ES):List zJ→List V→Option V
 | [],acc=>some (iS acc)
 | .slot t::r,acc=>AW s r (acc++[s.sl.getD t Ka])
 | .cell t k::r,acc=>((aY.load k (.slot t)).val s.sl (lk s.l)).bind fun v=>AW s r (acc++[v])
theorem xM{s:ES}{R:V→Prop}:∀{rs:List zJ} {acc:List V} {v:V},AW s rs acc=some v→R v→mE s.st rs acc fun vs=>R (iS vs)
 | [],acc,v,e,hR=>by cases e;exact hR
 | .slot t::r,acc,v,e,hR=>xM (rs:=r) e hR
 | .cell t k::r,acc,v,e,hR=>by
  obtain⟨w,h1,h2⟩:=Kg.1 e;exact aY.aCu (R:=fun v=>mE s.st r (acc++[v]) fun vs=>R (iS vs)) h1 (xM (rs:=r) h2 hR)
abbrev wi:=List (Nat×List V×V)
def FF(f:Nat)(args:List V):wi→Option V
 | []=>none
 |(g,zAs,v)::r=>bif g==f&&iw args zAs then some v else FF f args r
def FJ(f:Nat):List (Nat×LFn)→Option LFn
 | []=>none
 |(g,L)::r=>bif g==f then some L else FJ f r
def evF(T:List (Nat×LFn))(kn:wi)(fl:Nat):Nat→EC
 |0,_,_,_,_=>none
 |n+1,f,args,l,a=>match FF f args kn with
  |some v=>some (v,l,a)
  |none=>match FJ f T with
   |some L=>match evC (evF T kn fl n) fl L.body ⟨args++List.replicate (L.nt-args.length) Ka,l,a⟩ with
    |some (.exit _,_)=>none
    |some (_,s)=>(AW s L.res []).map fun v=>(v,s.l,s.a)
    |none=>none
   |none=>none
theorem Ep{P:Program}{T:List (Nat×LFn)}{kn:wi}{fl:Nat}(hT:∀p∈T,aE P p.1=some p.2)(hk:∀p∈kn,aL P p.1 p.2.1 Hp.none p.2.2):∀n,p9 P (evF T kn fl n)
 |0,f,args,l,a,v,l',a',e=>by cases e
 |n+1,f,args,l,a,v,l',a',e=>by
  have aO7:∀{kn:wi} {w},(∀p∈kn,aL P p.1 p.2.1 Hp.none p.2.2)→FF f args kn=some w→aL P f args Hp.none w:=by
   intro kn;induction kn with
   |nil=>intro w _ h;cases h
   |cons p r ih=>
    intro w hk h;obtain⟨g,zAs,u⟩:=p;simp only[FF] at h;cases hb:g==f&&iw args zAs with
    |false=>rw[hb] at h;exact ih (fun p hp=>hk p (Kp _ hp)) h
    |true=>
     rw[hb] at h;simp only[Kf,beq_iff_eq] at hb;cases h;have:=hk _ (Kv ..);rw[←rS hb.2,hb.1] at this;exact this
  have aVU:∀{T:List (Nat×LFn)} {L},(∀p∈T,aE P p.1=some p.2)→FJ f T=some L→aE P f=some L:=by
   intro T;induction T with
   |nil=>intro L _ h;cases h
   |cons p r ih=>
    intro L hT h;obtain⟨g,u⟩:=p;simp only[FJ] at h;cases hb:g==f with
    |false=>rw[hb] at h;exact ih (fun p hp=>hT p (Kp _ hp)) h
    |true=>
     rw[hb] at h;cases h;have:=hT _ (Kv ..);rwa [beq_iff_eq.1 hb] at this
  simp only[evF] at e;split at e
  ·rename_i w hw;cases e;exact aO7 hk hw _ _ (bA _)
  split at e
  ·rename_i L hL;have aCI:=aVU hT hL;obtain⟨b,nt,res⟩:=L;refine aB aCI fun _=>?_;split at e
   ·cases e
   ·rename_i x s hx hev;obtain⟨v,h1,h2⟩:=Ke.1 e;cases h2;refine lN (Ep hT hk n) _ _ _ hev _ ?_;have hp:mE s.st res [] fun vs=>∃h',h'.le s.st.h∧(iS vs=v∧h'=lk s.l∧s.st.nx=s.a):=
     xM (R:=fun w=>∃h',h'.le s.st.h∧(w=v∧h'=lk s.l∧s.st.nx=s.a)) h1 ⟨_,Hp.le_refl _,rfl,rfl,rfl⟩
    cases x with
    |exit id=>exact absurd rfl (hx id)
    |normal=>exact hp
    |ret=>exact hp
   cases e
  cases e
theorem Bz{P:Program}{f:FuncId}{b:Bool}(c:aR P f [] Hp.none 0 fun v _ _=>v= .bool b):aL P f [] Hp.none (.bool b):=by
 intro h' nx _;refine⟨c.1,fun K cargs hlv hrel aBO=>?_⟩;refine(c.2 {K with live:=fun _=>False,fro:=fun b=>b<K.w.heap.size} cargs (fun _ h=>h.elim) ⟨fun _ _ h=>(by cases h),fun _ _ h=>(by cases h),fun _ _ h=>(by cases h),fun _ _ _ _ h=>(by cases h),hrel.size.all.re rfl rfl⟩ ⟨aBO.1,fun i hi=>absurd hi Zm⟩).mono ?_;rintro e w' ⟨K',v,cv,h'',nx',rfl,rfl,hle,hvr,aAu,aD3,hnx,rfl⟩;have aCU:K.le ⟨K'.w,K.mu,K.imm,K.tp,K.live,K.fro⟩:=⟨fun _ h=>h,fun _ _=>rfl,fun _ _=>rfl,rfl,fun _ _=>Kk _,fun b o hb _=>hle.cell b o hb (.inl hb),hle.shape,
  ⟨hle.below.os,hle.below.tape,hle.below.output,hle.below.drawn,hle.below.size,fun b hb _=>hle.below.block b hb (.inl hb)⟩⟩
 refine⟨⟨K'.w,K.mu,K.imm,K.tp,K.live,K.fro⟩, .bool b,cv,h',nx,rfl,rfl,aCU,?_,?_,fun n hn=>⟨hlv n hn, .inl hn⟩,Kk _,rfl,rfl,rfl⟩
 ·cases hvr;exact .bool b
 exact hrel.keep aCU fun n b e=>⟨hle.below.block _ (hrel.blk n b e).lt_size (.inl (hrel.blk n b e).lt_size),rfl⟩
end Go.Proofs.YtlhedpgobaellaaGreatDoor
namespace Go.Proofs.YtlhedpgobaellaaGreatDoor
open Go.RowKit
set_option maxRecDepth 100000
def evT:List (Nat×LFn):=[(38,L.g20),(84,L.g45),(85,L.g46),(132,L.g75),(131,L.g74),(133,L.g76),(134,L.g77),(135,L.g78),(136,L.g79),(195,L.aWd),(196,L.aWc),(198,L.aWa),(197,L.aWb),(200,L.aWY),(201,L.aWX),(202,L.aWW),(125,L.g68),(199,L.aWZ),(243,L.aWP),(244,L.aWO),(142,L.g85),(242,L.aWQ),(260,L.aWL),(204,L.aWV),(259,L.aWM),(276,L.aWH),(179,L.g92),(274,L.aWJ),(275,L.aWI),(94,L.g55),(225,L.aWR),(269,L.aWK),(285,L.aWG),(143,L.g86),(144,L.g87),(205,L.aWU),(206,L.aWT),(207,L.aWS),(247,L.aWN)]
theorem GL:∀p∈evT,aE Tryz.prog p.1=some p.2:=by
 refine Kc.2 ⟨L.aZN,?_⟩;refine Kc.2 ⟨L.aYr,?_⟩;refine Kc.2 ⟨L.aYq,?_⟩;refine Kc.2 ⟨L.aX7,?_⟩;refine Kc.2 ⟨L.aX8,?_⟩;refine Kc.2 ⟨L.aX6,?_⟩;refine Kc.2 ⟨L.aX5,?_⟩;refine Kc.2 ⟨L.aX4,?_⟩;refine Kc.2 ⟨L.aX3,?_⟩;refine Kc.2 ⟨L.aVP,?_⟩;refine Kc.2 ⟨L.aVO,?_⟩;refine Kc.2 ⟨L.aVM,?_⟩;refine Kc.2 ⟨L.aVN,?_⟩;refine Kc.2 ⟨L.aVK,?_⟩;refine Kc.2 ⟨L.aVG,?_⟩;refine Kc.2 ⟨L.aVF,?_⟩;refine Kc.2 ⟨L.aRu,?_⟩;refine Kc.2 ⟨L.aVL,?_⟩;refine Kc.2 ⟨L.aUr,?_⟩;refine Kc.2 ⟨L.aUq,?_⟩;refine Kc.2 ⟨L.aV4,?_⟩;refine Kc.2 ⟨L.aED,?_⟩;refine Kc.2 ⟨L.aUg,?_⟩;refine Kc.2 ⟨L.aGW,?_⟩;refine Kc.2 ⟨L.aUh,?_⟩;refine Kc.2 ⟨L.aUT,?_⟩;refine Kc.2 ⟨L.aV1,?_⟩;refine Kc.2 ⟨L.aUV,?_⟩;refine Kc.2 ⟨L.aUU,?_⟩;refine Kc.2 ⟨L.aV8,?_⟩;refine Kc.2 ⟨L.aN6,?_⟩;refine Kc.2 ⟨L.aUX,?_⟩;refine Kc.2 ⟨L.aUS,?_⟩;refine Kc.2 ⟨L.aV3,?_⟩;refine Kc.2 ⟨L.aV2,?_⟩;refine Kc.2 ⟨L.aOb,?_⟩;refine Kc.2 ⟨L.aOY,?_⟩;refine Kc.2 ⟨L.aVD,?_⟩;refine Kc.2 ⟨L.aUn,?_⟩;exact fun _ h=>absurd h Kz
def Ab:ByteArray:=⟨#[112,40,88,44,32,90,41,32,58,45,32,101,40,88,44,32,89,41,44,32,101,40,89,44,32,90,41,46]⟩
def GS:List Tk:=[⟨2,⟨#[112]⟩,0⟩,⟨5,⟨#[40]⟩,1⟩,⟨3,⟨#[88]⟩,2⟩,⟨5,⟨#[44]⟩,3⟩,⟨3,⟨#[90]⟩,5⟩,⟨5,⟨#[41]⟩,6⟩,⟨5,⟨#[58,45]⟩,8⟩,⟨2,⟨#[101]⟩,11⟩,⟨5,⟨#[40]⟩,12⟩,⟨3,⟨#[88]⟩,13⟩,⟨5,⟨#[44]⟩,14⟩,⟨3,⟨#[89]⟩,16⟩,⟨5,⟨#[41]⟩,17⟩,⟨5,⟨#[44]⟩,18⟩,⟨2,⟨#[101]⟩,20⟩,⟨5,⟨#[40]⟩,21⟩,⟨3,⟨#[89]⟩,22⟩,⟨5,⟨#[44]⟩,23⟩,⟨3,⟨#[90]⟩,25⟩,⟨5,⟨#[41]⟩,26⟩,⟨5,⟨#[46]⟩,27⟩]
theorem GW:kD iV Ab (cG Ab 0)=(GS,none):=Zz
def Ho:Tr:=⟨⟨#[88]⟩,xX⟩
def Hn:Tr:=⟨⟨#[89]⟩,xX⟩
def Hm:Tr:=⟨⟨#[90]⟩,xX⟩
def F2:Ex:= .mk 0 Aj .nil []
def CI:Ru:=⟨⟨⟨#[112]⟩, .tok 73,[Ho,Hm]⟩,0,0, .tok 270,[⟨1,⟨⟨#[101]⟩, .tok 161,[Ho,Hn]⟩,0,F2,F2,11⟩,⟨1,⟨⟨#[101]⟩, .tok 255,[Hn,Hm]⟩,0,F2,F2,20⟩],0⟩
def Hq:wi:=[(130,[.str Ab], .tup [.sl (.agg 3) .free (GS.map Tk.v), .int .i64 0, .nilIface])]
theorem F3:∀p∈Hq,aL Tryz.prog p.1 p.2.1 Hp.none p.2.2:=by
 refine Kc.2 ⟨?_,fun _ h=>absurd h Kz⟩;have h:=xF Ab Hp.none;have e:sG Ab= .tup [.sl (.agg 3) .free (GS.map Tk.v), .int .i64 0, .nilIface]:=by
  unfold sG;rw[if_neg ZM,GW];rfl
 rw[e] at h;exact h
def Hr:Bool:=match evF evT Hq 1000 60 38 [.str Ab] [] 0 with
 |some (.tup [r,_,e],_,_)=>iw [r,e] [CI.v, .nilIface]
 |_=>false
theorem GV:Hr=true:=Zz
theorem EU:∃x h a,aR Tryz.prog 38 [.str Ab] Hp.none 0 fun v h' nx'=>v= .tup [CI.v,x, .nilIface]∧h'=h∧nx'=a:=by
 have e:=GV;unfold Hr at e;split at e
 ·rename_i r x e' l a he;have c:=Ep GL F3 60 _ _ _ _ _ _ _ he;have q:=rS e;injection q with q1 q2;injection q2 with q2 q3;subst q1;subst q2;exact⟨x,lk l,a,c⟩
 cases e
end Go.Proofs.YtlhedpgobaellaaGreatDoor
