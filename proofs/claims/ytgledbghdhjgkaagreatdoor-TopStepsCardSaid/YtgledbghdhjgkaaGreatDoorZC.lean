/-
  A part of the proof that TopSteps answers true for every input that can be read as data.
-/
import Derived.Test.YtgledbghdhjgkaaGreatDoorZB
import Derived.MapKept
import Derived.ChangeKeysEq
import Derived.Great.BuildSlice
import Derived.WideMake
set_option linter.unusedSimpArgs false
set_option linter.unusedVariables false
namespace Go.AM
open Go Go.RowKit
section
variable {P:Program} {w0:World} {σ:aZ} {g:Mem} {N:Nat} {w:World}
structure Told (σ:aZ) (N:Nat) (c:AC) (vs:List Value):Prop where
 len:c.size=vs.length
 get:∀i a,c.get? i=some a->∃v,vs[i]?=some v/\af σ N a v
theorem Told.ofL {ae:List AV} {vs:List Value} (h:ai σ N ae vs):Told σ N (.l ae) vs:=⟨h.length,fun i a ha=>h.get ha⟩
theorem Told.nil:Told σ N (.l []) []:=Told.ofL (by simp [ai])
theorem Told.atoms {c:AC} {vs:List Value} (h:Told σ N c vs) (ha:c.E5=true):∀u∈vs,u.oneCell'=true:=by
 intro u hu
 obtain⟨i,hi,rfl⟩:=List.getElem_of_mem hu
 have hlt:i < c.size:=by rw [h.len];exact hi
 cases c with
 | l cs=>
  simp only [AC.size] at hlt
  obtain⟨v,hv,hr⟩:=h.get i cs[i] (by simp [AC.get?,hlt])
  rw [List.getElem?_eq_getElem hi] at hv
  cases hv
  exact zl hr (List.all_eq_true.1 ha _ (List.getElem_mem hlt))
 | u x n=>
  simp only [AC.size] at hlt
  obtain⟨v,hv,hr⟩:=h.get i x (by simp [AC.get?,hlt])
  rw [List.getElem?_eq_getElem hi] at hv
  cases hv
  exact zl hr ha
theorem Told.cat {c d e:AC} {k:aS} {vs us:List Value} (h:c.cat d=some (k,e)) (hk:k.ok) (hc:Told σ N c vs) (hd:Told σ N d us):Told σ N e (vs++us):=by
 have two:∀(x:AV) (n m:Nat),(∀i,i < n->∃v,vs[i]?=some v/\af σ N x v)->(∀i,i < m->∃v,us[i]?=some v/\af σ N x v)->vs.length=n->us.length=m->Told σ N (.u x (n+m)) (vs++us):=by
  intro x n m h1 h2 h3 h4
  refine⟨by simp [AC.size,h3,h4],fun i a ha=>?_⟩
  simp only [AC.get?] at ha
  split at ha
  ·rename_i hi
   cases ha
   by_cases hin:i < n
   ·obtain⟨v,hv,hr⟩:=h1 i hin
    exact⟨v,by rw [List.getElem?_append_left (by omega)];exact hv,hr⟩
   ·obtain⟨v,hv,hr⟩:=h2 (i - n) (by omega)
    exact⟨v,by rw [List.getElem?_append_right (by omega),h3];exact hv,hr⟩
  ·cases ha
 have listed:∀(x:AV) (xs:List AV) (k:aS) (ws:List Value),wJ x xs=some k->k.ok->Told σ N (.l xs) ws->∀i,i < xs.length->∃v,ws[i]?=some v/\af σ N x v:=by
  intro x xs k ws hl hk ht i hi
  obtain⟨v,hv,hr⟩:=ht.get i xs[i] (by simp [AC.get?,hi])
  exact⟨v,hv,sG hl hk i xs[i] (List.getElem?_eq_getElem hi) σ N v hr⟩
 have units:∀(x:AV) (n:Nat) (ws:List Value),Told σ N (.u x n) ws->∀i,i < n->∃v,ws[i]?=some v/\af σ N x v:=by
  intro x n ws ht i hi
  exact ht.get i x (by simp [AC.get?,hi])
 unfold AC.cat at h
 split at h
 ·rename_i xs ys
  simp only [Option.some.injEq,Prod.mk.injEq] at h
  obtain⟨rfl,rfl⟩:=h
  refine⟨by have:=hc.len;have:=hd.len;simp [AC.size] at*;omega,fun i a ha=>?_⟩
  simp only [AC.get?] at ha
  have l1:xs.length=vs.length:=hc.len
  by_cases hi:i < xs.length
  ·rw [List.getElem?_append_left hi] at ha
   obtain⟨v,hv,hr⟩:=hc.get i a ha
   exact⟨v,by rw [List.getElem?_append_left (by omega)];exact hv,hr⟩
  ·rw [List.getElem?_append_right (by omega)] at ha
   obtain⟨v,hv,hr⟩:=hd.get _ a ha
   exact⟨v,by rw [List.getElem?_append_right (by omega), <- l1];exact hv,hr⟩
 ·rename_i x n ys
  cases e1:wJ x ys with
  | none=>rw [e1] at h;cases h
  | some q=>
   rw [e1] at h
   simp at h
   obtain⟨rfl,rfl⟩:=h
   exact two x n ys.length (units x n vs hc) (listed x ys q us e1 hk hd) hc.len.symm hd.len.symm
 ·rename_i x n
  simp only [Option.some.injEq,Prod.mk.injEq] at h
  obtain⟨rfl,rfl⟩:=h
  have:vs=[]:=List.length_eq_zero_iff.1 hc.len.symm
  subst this
  exact hd
 ·rename_i xs x n _
  cases e1:wJ x xs with
  | none=>rw [e1] at h;cases h
  | some q=>
   rw [e1] at h
   simp at h
   obtain⟨rfl,rfl⟩:=h
   exact two x xs.length n (listed x xs q vs e1 hk hc) (units x n us hd) hc.len.symm hd.len.symm
 ·rename_i x n y
  simp only [Option.some.injEq,Prod.mk.injEq] at h
  obtain⟨rfl,rfl⟩:=h
  have:us=[]:=List.length_eq_zero_iff.1 hd.len.symm
  subst this
  rw [List.append_nil]
  exact hc
 ·rename_i n m _
  simp only [Option.some.injEq,Prod.mk.injEq] at h
  obtain⟨rfl,rfl⟩:=h
  exact two _ _ _ (units _ _ vs hc) (units _ _ us hd) hc.len.symm hd.len.symm
 ·cases h
theorem Nf {C:Array Value} {c:AC} (h:∀i a,c.get? i=some a->∃v,C[i]?=some v/\af σ N a v) {o n:Nat} (hl:o+n<=C.size) {d:AC} (hd:d.size=n) (hg:∀i a,d.get? i=some a->c.get? (o+i)=some a):Told σ N d ((C.toList.drop o).take n):=by
 refine⟨by simp;omega,fun i a ha=>?_⟩
 obtain⟨v,hv,hr⟩:=h _ _ (hg i a ha)
 have hi:i < n:=by
  rw [<- hd]
  cases d with
  | l cs=>simp only [AC.get?] at ha;exact(List.getElem?_eq_some_iff.1 ha).1
  | u x m=>simp only [AC.get?] at ha;split at ha<;>first | assumption | cases ha
 refine⟨v,?_,hr⟩
 rw [List.getElem?_take_of_lt hi,List.getElem?_drop]
 simpa using hv
theorem BR {es:Nat} {x:AV} {a:Option (Nat×Nat)} {n e:Nat} {cp:Option Nat} (r:eF σ g N w) (hx0:x= .s a n cp e) {c:aS} {ac:AC} (h:oH es x g=some (c,ac)) (hc:c.ok) {X:Value} (hx:af σ N x X):
  ∃A C news,X= .slice A n C/\Told σ N ac news/\news.length=n*es/\(n≠0->∃q,A=some q/\∀j u,news[j]?=some u->w.cell? (q.add j)=some u)/\(A=none->n=0):=by
 subst hx0
 unfold oH at h
 split at h
 ·rename_i a' c' e' heq
  injection heq with h1 h2 h3 h4
  subst h1 h2 h3 h4
  simp only [Option.some.injEq,Prod.mk.injEq] at h
  obtain⟨rfl,rfl⟩:=h
  have:∃A C,X= .slice A 0 C:=by
   rcases a with _ | ⟨d,o⟩
   ·simp only [af] at hx;obtain⟨_,rfl⟩:=hx;exact⟨none,0,rfl⟩
   ·simp only [af] at hx;obtain⟨_,A,C,rfl,_⟩:=hx;exact⟨A,C,rfl⟩
  obtain⟨A,C,rfl⟩:=this
  exact⟨A,C,[],rfl,Told.nil,by simp,fun h=>absurd rfl h,fun _=>rfl⟩
 ·rename_i d o n' c' e' hn heq
  injection heq with h1 h2 h3 h4
  subst h1 h2 h3 h4
  split at h
  ·rename_i he
   subst he
   simp only [af] at hx
   obtain⟨hd,A,C,rfl,hcap,hA,El,hnC0⟩:=hx
   have hn0:n≠0:=fun e=>hn e
   obtain⟨rfl,hnC,hsz⟩:=hA (by omega)
   have fin:∀{cc:AC} {ro:Bool} {dd:AC},g d=some (.cells cc ro)->o+n*e<=cc.size->dd.size=n*e->(∀i a,dd.get? i=some a->cc.get? (o+i)=some a)->
     ∃A' C' news,Value.slice (some ⟨σ.at_ d,o,none⟩) n C= .slice A' n C'/\Told σ N dd news/\news.length=n*e/\(n≠0->∃q,A'=some q/\∀j u,news[j]?=some u->w.cell? (q.add j)=some u)/\(A'=none->n=0):=by
    intro cc ro dd hgd hle hds hdg
    obtain⟨_,D,el,fz,hD,h1,h2,h3⟩:=M4 r hgd
    refine⟨_,_,(D.toList.drop o).take (n*e),rfl,Nf h3 (by omega) hds hdg,by simp;omega,fun _=>⟨_,rfl,fun j u hu=>?_⟩,fun h=>by cases h⟩
    rw [addr_add,cell_of hD]
    have hj:j < n*e:=by have:=(List.getElem?_eq_some_iff.1 hu).1;simp at this;omega
    rw [List.getElem?_take_of_lt hj,List.getElem?_drop] at hu
    simpa using hu
   split at h
   ·rename_i cs ro hgd
    simp only [Option.some.injEq,Prod.mk.injEq] at h
    obtain⟨rfl,rfl⟩:=h
    have hb:=hc (((o+n*e:Nat):Int),(cs.length:Int)) (by simp)
    simp only at hb
    have hle:o+n*e<=cs.length:=by omega
    refine fin hgd hle (by simp [AC.size];omega) fun i a ha=>?_
    simp only [AC.get?] at ha ⊢
    have hi:i < n*e:=by have:=(List.getElem?_eq_some_iff.1 ha).1;simp at this;omega
    rw [List.getElem?_take_of_lt hi,List.getElem?_drop] at ha
    exact ha
   ·rename_i v m ro hgd
    simp only [Option.some.injEq,Prod.mk.injEq] at h
    obtain⟨rfl,rfl⟩:=h
    have hb:=hc (((o+n*e:Nat):Int),(m:Int)) (by simp)
    simp only at hb
    refine fin hgd (by simp [AC.size];omega) rfl fun i a ha=>?_
    simp only [AC.get?] at ha ⊢
    split at ha
    ·cases ha;rw [if_pos (by omega)]
    ·cases ha
   ·cases h
  ·cases h
 ·cases h
theorem Ld {es:Nat} {x:AV} {a:Option (Nat×Nat)} {n e:Nat} {cp:Option Nat} {tx te:TypeId} (hk:P.underlying tx=some (.slice te)) (r:eF σ g N w) (hx0:x= .s a n cp e) {c:aS} {ac:AC} (h:oH es x g=some (c,ac)) (hc:c.ok) (hat:ac.E5=true) {X:Value} (hx:af σ N x X):
  ∃news,Src P es tx X n news w/\Told σ N ac news:=by
 obtain⟨A,C,news,rfl,ht,hl,h1,h2⟩:=BR r hx0 h hc hx
 refine⟨news,?_,ht⟩
 cases A with
 | none=>
  have hn:=h2 rfl
  subst hn
  have:news=[]:=List.length_eq_zero_iff.1 (by simpa using hl)
  subst this
  exact⟨.inl ⟨te,hk⟩,fun _=>rfl,run_firstCells_none w es 0 0 C,run_firstCells_none w.drew es 0 0 C,by simp,fun _ h=>by cases h⟩
 | some q=>
  by_cases hn:n=0
  ·subst hn
   have:news=[]:=List.length_eq_zero_iff.1 (by simpa using hl)
   subst this
   exact Src.ofSlice w hk q 0 C [] (by simp) (fun j u hu=>by simp at hu) (fun u hu=>by cases hu)
  ·obtain⟨q',hq,hcells⟩:=h1 hn
   cases hq
   exact Src.ofSlice w hk q n C news hl hcells (ht.atoms hat)
theorem vD (z:Array Value) (n:Nat):(Builtin.zeroCells z n).size=n*z.size:=by simp [Builtin.zeroCells]
theorem sJ (w:World) (need old:Nat) (e:TypeId):need<=grownCap w need old e:=by
 show need<=need+_
 exact Nat.le_add_right _ _
theorem JL {c:AC} {vs:List Value} (r:eF σ g N w) (b:Base w0 σ g w) (ht:Told σ N c vs) (zs:Array Value) (e:TypeId):
  Post w0 σ g N w (σ.ins N w.heap.size (vs.toArray++zs).size) (Mem.push g N (.cells c false)) (N+1) (w.drew.alloc (.cells (vs.toArray++zs) e)):=by
 have p1:=Post.drew r b
 refine p1.trans ?_
 have:=zz (w:=w.drew) (σ:=σ) (g:=g) (N:=N) p1.rel p1.base (c:=c) (C:=vs.toArray++zs) e (by simp [ht.len]) (fun i a ha=>by
  obtain⟨v,hv,hr⟩:=ht.get i a ha
  refine⟨v,?_,hr⟩
  have hi:=(List.getElem?_eq_some_iff.1 hv).1
  rw [Array.getElem?_append_left (by simpa using hi)]
  simpa using hv)
 exact this
theorem zA {a:Option (Nat×Nat)} {n e:Nat} {cp:Option Nat} {X:Value} (hx:af σ N (.s a n cp e) X):∃A C,X= .slice A n C/\n<=C/\(A=none->C=0)/\(∀c',cp=some c'->a≠none->C=c'):=by
 rcases a with _ | ⟨d,o⟩
 ·simp only [af] at hx;obtain⟨rfl,rfl⟩:=hx;exact⟨none,0,rfl,Nat.le_refl _,fun _=>rfl,fun _ _ h=>absurd rfl h⟩
 ·simp only [af] at hx
  obtain⟨_,A,C,rfl,h1,h2,h3,h4⟩:=hx
  exact⟨A,C,rfl,h4,fun h=>absurd h h3,fun c' hc _=>h1 c' hc⟩
theorem IX {t tx te ty:TypeId} {s x:AV} {c:aS} {v:AV} {e:Ef} (hk:P.underlying tx=some (.slice te)) (r:eF σ g N w) (b:Base w0 σ g w) (h:KS P t s x g N=some (c,v,e)) (hc:c.ok) {S X:Value} (hs:af σ N s S) (hx:af σ N x X):
  vS P w0 σ g N w (do pure (.value (<- Builtin.append_ #[t,tx] ty #[S,X]))) v e:=by
 unfold KS at h
 split at h
 ·rename_i el hu
  split at h
  ·rename_i i hi
   split at h
   ·cases h
   ·rename_i z hz
    split at h
    ·cases h
    ·rename_i hh
     simp only [not_or,Decidable.not_not] at hh
     obtain⟨hi0,hby,hzl⟩:=hh
     have hzs:z.cells.size=i.size:=by
      have:=(ja (σ:=σ) (N:=N) z).length
      rw [<- hzl,this];simp
     split at h
     ·rename_i a n cp es xa k xcp xes
      obtain⟨A,C,rfl,hnC,El,hcapk⟩:=zA hs
      split at h
      ·simp only [Option.some.injEq,Prod.mk.injEq] at h
       obtain⟨rfl,rfl,rfl⟩:=h
       obtain⟨XA,XC,rfl,_,_,_⟩:=zA hx
       have hsrc:Src P i.size tx (.slice XA 0 XC) 0 [] w:=by
        cases XA with
        | none=>exact⟨.inl ⟨te,hk⟩,fun _=>rfl,run_firstCells_none w i.size 0 0 XC,run_firstCells_none w.drew i.size 0 0 XC,by simp,fun _ h=>by cases h⟩
        | some q=>exact Src.ofSlice w hk q 0 XC [] (by simp) (fun j u hu=>by simp at hu) (fun u hu=>by cases hu)
       refine vS.val r b (x:= .slice A n C) ?_ hs
       have:(Builtin.append_ #[t,tx] ty #[.slice A n C, .slice XA 0 XC]).run P w= .ok (.slice A n C) w:=by
        rcases hsrc.kind with⟨e',hk'⟩ | hk'<;>cases A<;>simp [Builtin.append_,run_underlying hu,run_underlying hk',sizeOf,run_typeInfo w hi,hsrc.len,hnC,hsrc.cells,storeCells]
       simp [this]
      ·rename_i m
       split at h
       ·cases h
       ·rename_i c1 new hsrc
        split at h
        ·cases h
        ·rename_i hat
         simp only [Bool.not_eq_false] at hat
         have grow:∀(olds:List Value) (news:List Value) (all:AC) (nt:Nat),nt=n+(m+1)->Src P i.size tx X (m+1) news w->(Builtin.firstCells i.size n (.slice A n C)).run P w.drew= .ok olds.toArray w.drew->olds.length=n*i.size->C < n+(m+1)->
           ((n:Int)+((m+1:Nat):Int)<=1073741824)->∀(g':Mem),eF σ g' N w->Base w0 σ g' w->Told σ N all (olds++news)->
           ∃w' σ',(Builtin.append_ #[t,tx] ty #[.slice A n C,X]).run P w= .ok (.slice (some ⟨w.heap.size,0,none⟩) nt (grownCap w nt C el)) w'/\Post w0 σ g' N w σ' (Mem.push g' N (.cells all false)) (N+1) w'/\Quiet (.push (.cells all false)) σ' N w w'/\af σ' (N+1) (.s (some (N,0)) nt none i.size) (.slice (some ⟨w.heap.size,0,none⟩) nt (grownCap w nt C el)):=by
          intro olds news all nt hnt hS hold hol hCg hbig g' r' b' hT
          subst hnt
          have hfit:Builtin.nextslicecap (n+(m+1)) C*i.bytes<=281474976710656:=growslice_fits hCg (by
           have h1:n+(m+1)<=1073741824:=by omega
           have h2:(n+(m+1))*i.bytes<=1073741824*256:=Nat.mul_le_mul h1 (by omega)
           omega)
          have hr:=run_append_grow_src w t tx ty el i z hu hi hz A n C olds hold X (m+1) news hS hCg (by omega) hfit
          refine⟨_,_,hr,JL r' b' hT _ el,Quiet.alloc _ _ _ rfl,?_⟩
          simp only [af]
          refine⟨by omega,_,_,rfl,fun c' h=>(by cases h),fun _=>⟨by rw [(iZ _ _ _ _).1],sJ _ _ _ _,?_⟩,(by simp),sJ _ _ _ _⟩
          rw [(iZ _ _ _ _).2]
          have hge:=sJ w (n+(m+1)) C el
          have hnl:=hS.newsLen
          rw [Array.size_append,vD,hzs]
          simp only [List.size_toArray,List.length_append,hol,hnl]
          have:n*i.size+(m+1)*i.size+(grownCap w (n+(m+1)) C el - (n+(m+1)))*i.size=grownCap w (n+(m+1)) C el*i.size:=by
           rw [<- Nat.add_mul, <- Nat.add_mul];congr 1;omega
          omega
         split at h
         ·simp only [Option.some.injEq,Prod.mk.injEq] at h
          obtain⟨rfl,rfl,rfl⟩:=h
          obtain⟨k1,k2⟩:=aS.aA.1 hc
          simp only at k1
          obtain⟨news,hS,hT⟩:=Ld hk r rfl hsrc k2 hat hx
          simp only [af] at hs
          obtain⟨rfl,hs⟩:=hs
          injection hs with hA _ hC
          subst hA hC
          obtain⟨w',σ',q1,q2,q4,q3⟩:=grow [] news new (m+1) (by omega) hS (run_firstCells_none w.drew i.size 0 0 0) (by simp) (by omega) k1 g r b (by simpa using hT)
          exact⟨_,w',σ',by simp [q1],q2,q4, .inl ⟨_,rfl,q3⟩⟩
         ·rename_i d o Ck
          split at h
          ·cases h
          ·rename_i c2 old hold
           split at h
           ·rename_i hes
            subst hes
            split at h
            ·cases h
            ·rename_i c3 all WH
             simp only [Option.some.injEq,Prod.mk.injEq] at h
             obtain⟨rfl,rfl,rfl⟩:=h
             obtain⟨k1,k2⟩:=aS.aA.1 hc
             obtain⟨k3,k4⟩:=aS.aA.1 k2
             obtain⟨k5,k6⟩:=aS.aU.1 k4
             obtain⟨k7,k8⟩:=aS.aU.1 k5
             simp only at k1 k3
             obtain⟨news,hS,hT⟩:=Ld hk r rfl hsrc k7 hat hx
             obtain⟨A',C',olds,hAC,hTo,hol,h1,h2⟩:=BR r rfl hold k8 hs
             injection hAC with e1 _ e2
             subst e1 e2
             have hCk:C=Ck:=hcapk Ck rfl (by simp)
             have hf:(Builtin.firstCells i.size n (.slice A n C)).run P w.drew= .ok olds.toArray w.drew:=by
              cases A with
              | none=>
               have hn:=h2 rfl
               subst hn
               have:olds=[]:=List.length_eq_zero_iff.1 (by simpa using hol)
               subst this
               exact run_firstCells_none w.drew i.size 0 0 C
              | some q=>
               by_cases hn:n=0
               ·subst hn
                have:olds=[]:=List.length_eq_zero_iff.1 (by simpa using hol)
                subst this
                exact run_firstCells_some w.drew i.size 0 q 0 C [] (by simp) (fun j u hu=>by simp at hu)
               ·obtain⟨q',hq,hcells⟩:=h1 hn
                cases hq
                exact run_firstCells_some w.drew i.size n q n C olds hol (by simpa using hcells)
             obtain⟨w',σ',q1,q2,q4,q3⟩:=grow olds news all (n+(m+1)) rfl hS hf hol (by omega) k1 g r b (Told.cat WH k6 hTo hT)
             exact⟨_,w',σ',by simp [q1],q2,q4, .inl ⟨_,rfl,q3⟩⟩
           ·cases h
         ·rename_i d o
          split at h
          ·rename_i old hgd
           split at h
           ·rename_i hh
            obtain⟨rfl,rfl,hosz⟩:=hh
            try simp only [Nat.succ_eq_add_one] at*
            split at h
            ·cases h
            ·rename_i c3 all WH
             simp only [Option.some.injEq,Prod.mk.injEq] at h
             obtain⟨rfl,rfl,rfl⟩:=h
             obtain⟨k1,k2⟩:=aS.aA.1 hc
             obtain⟨k3,k4⟩:=aS.aU.1 k2
             simp only at k1
             obtain⟨news,hS,hT⟩:=Ld hk r rfl hsrc k3 hat hx
             simp only [af] at hs
             obtain⟨hdN,A',C',hAC,hcap,hA,hA1,_⟩:=hs
             injection hAC with e1 _ e2
             subst e1 e2
             obtain⟨D,Ur,hD,hDs,hDo,hDg⟩:=kr r hgd
             have hnl:=hS.newsLen
             have hCs:C≠0->C*i.size<=D.size:=fun h0=>by
              have:=(hA h0).2.2
              omega
             have hTo:n*i.size<=D.size->Told σ N (if n=0 then AC.l [] else old) ((D.toList.drop 0).take (n*i.size)):=fun hle=>by
              by_cases h0:n=0
              ·subst h0
               rw [if_pos rfl]
               simpa using Told.nil
              ·rw [if_neg h0]
               exact Nf hDg (by omega) (hosz.resolve_left h0) (fun j a ha=>by simpa using ha)
             by_cases hroom:n+(m+1)<=C
             ·obtain⟨rfl,hn1,hCz⟩:=hA (by omega)
              have hcs:n*i.size<=C*i.size:=Nat.mul_le_mul_right _ hn1
              have hCd:=hCs (by omega)
              have hol:((D.toList.drop 0).take (n*i.size)).length=n*i.size:=by simp;omega
              have hTa:=Told.cat WH k4 (hTo (by omega)) hT
              have hle:n*i.size+(m+1)*i.size<=C*i.size:=by rw [<- Nat.add_mul];exact Nat.mul_le_mul_right _ hroom
              have hst:=run_storeCells_at P (σ.at_ d) (n*i.size) Ur news 0 D w hD (by omega) hS.one
              simp only [Nat.add_zero] at hst
              have hrun:(Builtin.append_ #[t,tx] ty #[.slice (some ⟨σ.at_ d,0,none⟩) n C,X]).run P w= .ok (.slice (some ⟨σ.at_ d,0,none⟩) (n+(m+1)) C) (w.setRow (σ.at_ d) (D.toList.take (n*i.size)++news++D.toList.drop (n*i.size+news.length)).toArray):=by
               rcases hS.kind with⟨e',hk'⟩ | hk'<;>simp [Builtin.append_,run_underlying hu,run_underlying hk',sizeOf,run_typeInfo w hi,hS.len,hroom,hS.cells,addr_add,hst]
              refine⟨.value (.slice (some ⟨σ.at_ d,0,none⟩) (n+(m+1)) C),_,_,by simp [hrun],Post.Zq r b r.fresh d (.cells old false) (.cells all false) (.cells (D.toList.take (n*i.size)++news++D.toList.drop (n*i.size+news.length)).toArray Ur (0,0)) hgd rfl ?_ (setRow_size _ _ _) (fun k hk=>setRow_other _ _ _ _ hk) (setRow_heap _ _ _ _ _ _ hD) rfl rfl rfl,trivial, .inl ⟨_,rfl,?_⟩⟩
              ·have hsz:(D.toList.take (n*i.size)++news++D.toList.drop (n*i.size+news.length)).toArray.size=D.size:=oJ (by omega)
               refine⟨_,Ur,(0,0),rfl,by rw [hsz];exact hDs,?_,fun _=>rfl,fun j a ha=>?_⟩
               ·have:=hTa.len
                rw [List.length_append,hol,hnl] at this
                rw [this];omega
               ·obtain⟨v,hv,hr⟩:=hTa.get j a ha
                refine⟨v,?_,hr.ext (Ext.ins σ N _ _)⟩
                have hj:=(List.getElem?_eq_some_iff.1 hv).1
                rw [List.drop_zero] at hv hj
                rw [List.getElem?_toArray,List.getElem?_append_left hj]
                exact hv
              ·simp only [af,Ef.TL]
               refine⟨by omega,_,_,rfl,fun c' h=>(by cases h),fun _=>⟨by rw [(iZ _ _ _ _).1],hroom,?_⟩,(by simp),hroom⟩
               rw [(iZ _ _ _ _).2]
               omega
             ·have pd:=Post.del (w:=w) r b d
              have hnd:n*i.size<=D.size:=by
               by_cases h0:C=0
               ·have:n=0:=by omega
                subst this;simp
               ·exact Nat.le_trans (Nat.mul_le_mul_right _ hnC) (hCs h0)
              have hol:((D.toList.drop 0).take (n*i.size)).length=n*i.size:=by simp;omega
              have hTa:=Told.cat WH k4 (hTo hnd) hT
              have hf:(Builtin.firstCells i.size n (.slice A n C)).run P w.drew= .ok ((D.toList.drop 0).take (n*i.size)).toArray w.drew:=by
               cases A with
               | none=>exact absurd rfl hA1
               | some q=>
                by_cases h0:n=0
                ·subst h0
                 simpa using run_firstCells_some w.drew i.size 0 q 0 C [] (by simp) (fun j u hu=>by simp at hu)
                ·obtain⟨hq,_,_⟩:=hA (by omega)
                 cases hq
                 refine run_firstCells_some w.drew i.size n _ n C _ hol (fun j u hu=>?_)
                 have hj:j < n*i.size:=by have:=(List.getElem?_eq_some_iff.1 hu).1;omega
                 rw [List.getElem?_take_of_lt hj,List.drop_zero] at hu
                 show w.cell? _=_
                 rw [addr_add,cell_of hD]
                 simpa using hu
              obtain⟨w',σ',q1,q2,q4,q3⟩:=grow _ news all (n+(m+1)) rfl hS hf hol (by omega) k1 (Mem.del g d) pd.rel pd.base hTa
              exact⟨_,w',σ',by simp [q1],pd.trans q2,trivial, .inl ⟨_,rfl,q3⟩⟩
           ·cases h
          ·cases h
     ·cases h
  ·cases h
 ·cases h
theorem FP {t tx ty:TypeId} {s x:AV} {c:aS} {v:AV} {e:Ef} (hk:P.underlying tx=some (.int .i64)) (r:eF σ g N w) (b:Base w0 σ g w) (h:Fy P t s x N=some (c,v,e)) {S X:Value} (hs:af σ N s S) (hx:af σ N x X):
  vS P w0 σ g N w (do pure (.value (<- Builtin.append_ #[t,tx] ty #[S,X]))) v e:=by
 unfold Fy at h
 split at h
 ·rename_i el n0 c0 e0 k hu
  split at h
  ·rename_i i hi
   split at h
   ·cases h
   ·rename_i z hz
    split at h
    ·cases h
    ·rename_i hh
     simp only [not_or,Decidable.not_not] at hh
     obtain⟨hi0,hby,hzl,hk1,hk2⟩:=hh
     simp only [Option.some.injEq,Prod.mk.injEq] at h
     obtain⟨rfl,rfl,rfl⟩:=h
     simp only [af] at hs hx
     obtain⟨rfl,rfl⟩:=hs
     subst hx
     obtain⟨q,rfl⟩:∃q:Nat,k=q:=⟨k.toNat,by omega⟩
     have e1:((q:Int)).toNat=q:=by omega
     rw [e1]
     have su:=ja (σ:=σ) (N:=N) z
     have hzs:z.cells.size=i.size:=by
      have:=su.length
      rw [<- hzl,this];simp
     have hrow:ai σ N ((List.replicate q (AV.eX z).cells).flatten) (Builtin.zeroCells z.cells q).toList:=by
      refine ai.of ?_ ?_
      ·simp [Builtin.zeroCells,hzl,hzs]
      ·intro j a y0 ha hy0
       have hj:j < q*i.size:=by
        have:=(List.getElem?_eq_some_iff.1 ha).1
        simpa [hzl] using this
       rw [ji _ q j (by rw [hzl];exact hj)] at ha
       obtain⟨y,hy,hr⟩:=su.get ha
       have:(j % (AV.eX z).cells.length)=j % z.cells.size:=by rw [hzl,hzs]
       rw [this] at hy
       have hy':z.cells[j % z.cells.size]?=some y:=by simpa using hy
       have hb:z.cells[j % z.cells.size]! =y:=by rw [getElem!_def,hy']
       have:y0=y:=by rw [<- hb];simpa [Builtin.zeroCells,hzs,hj] using hy0.symm
       rw [this];exact hr
     have hfit:Builtin.nextslicecap q 0*i.bytes<=281474976710656:=growslice_fits (by omega) (by
      have h2:q*i.bytes<=4096*256:=Nat.mul_le_mul (by omega) (by omega)
      omega)
     have hge:=sJ w q 0 el
     have hrun:(Builtin.append_ #[t,tx] ty #[.slice none 0 0, .int .i64 (q:Int)]).run P w= .ok (.slice (some ⟨w.heap.size,0,none⟩) q (grownCap w q 0 el)) (w.drew.alloc (.cells ((Builtin.zeroCells z.cells q).toList.toArray++Builtin.zeroCells z.cells (grownCap w q 0 el - q)) el)):=by
      have w0':∀w:World,(asInt (.int .i64 (q:Int))).run P w= .ok (q:Int) w:=fun _=>rfl
      have w1:IntKind.i64.wrap (q:Int)=q:=by rw [IntKind.wrap_i64];omega
      have w2:¬((q:Int) < 0):=by omega
      have w3:¬(281474976710656 < (q:Int)*(i.bytes:Int)):=by
       have:q*i.bytes<=4096*256:=Nat.mul_le_mul (by omega) (by omega)
       have h3:((q*i.bytes:Nat):Int)<=((4096*256:Nat):Int):=Int.ofNat_le.2 this
       simp only [Int.natCast_mul] at h3
       omega
      have w4:¬(q*i.size=0):=by
       intro h0
       rcases Nat.mul_eq_zero.1 h0 with h0 | h0<;>omega
      have w5:¬(q=0):=by omega
      have w6:¬(9223372036854775807 < (q:Int)):=by omega
      have w7:¬(281474976710656 < Builtin.nextslicecap q 0*i.bytes):=by omega
      simp [Builtin.append_,run_underlying hu,run_underlying hk,sizeOf,typeInfo,zeroValue,hi,hz,w0',w1,w2,w3,w4,w5,w6,w7,Question.forced,Builtin.firstCells,newRow,grownCap]
     refine⟨.value (.slice (some ⟨w.heap.size,0,none⟩) q (grownCap w q 0 el)),_,_,by simp only [Sem.run_bind,hrun,Result.andThen_ok,Sem.run_pure],JL r b (Told.ofL hrow) (Builtin.zeroCells z.cells (grownCap w q 0 el - q)) el,Quiet.alloc _ _ _ rfl, .inl ⟨_,rfl,?_⟩⟩
     simp only [af,Ef.TL]
     refine⟨by omega,_,_,rfl,fun c' h=>(by cases h),fun _=>⟨by rw [(iZ _ _ _ _).1],hge,?_⟩,(by simp),hge⟩
     rw [(iZ _ _ _ _).2,Array.size_append,vD,hzs]
     simp only [List.size_toArray,Array.length_toList,vD,hzs]
     have:q*i.size+(grownCap w q 0 el - q)*i.size=grownCap w q 0 el*i.size:=by
      rw [<- Nat.add_mul];congr 1;omega
     omega
  ·cases h
 ·cases h
theorem Ng {old new all:AC} {o:Nat} {k:aS} (h:old.splice o new=some (k,all)) (hk:k.ok) {D:Array Value} (hD:∀i a,old.get? i=some a->∃v,D[i]?=some v/\af σ N a v) (hsz:old.size<=D.size) {vs:List Value} (hn:Told σ N new vs):
  o+vs.length<=D.size/\all.size=old.size/\∀i a,all.get? i=some a->∃v,(D.toList.take o++vs++D.toList.drop (o+vs.length)).toArray[i]?=some v/\af σ N a v:=by
 have put:∀(hl:o+vs.length<=D.size) (i:Nat) (a:AV),(∃j,i=o+j/\∃v,vs[j]?=some v/\af σ N a v)\/((i < o\/o+vs.length<=i)/\∃v,D[i]?=some v/\af σ N a v)->∃v,(D.toList.take o++vs++D.toList.drop (o+vs.length)).toArray[i]?=some v/\af σ N a v:=by
  intro hl i a hh
  have ht:(D.toList.take o).length=o:=by simp;omega
  rcases hh with⟨j,rfl,v,hv,hr⟩ | ⟨hi,v,hv,hr⟩
  ·have hj:j < vs.length:=(List.getElem?_eq_some_iff.1 hv).1
   refine⟨v,?_,hr⟩
   rw [List.getElem?_toArray,List.append_assoc,List.getElem?_append_right (by rw [ht];omega),ht,Nat.add_sub_cancel_left,List.getElem?_append_left hj]
   exact hv
  ·refine⟨v,?_,hr⟩
   rw [List.getElem?_toArray,List.append_assoc]
   rcases hi with hi | hi
   ·rw [List.getElem?_append_left (by rw [ht];exact hi),List.getElem?_take_of_lt hi]
    simpa using hv
   ·rw [List.getElem?_append_right (by rw [ht];omega),ht,List.getElem?_append_right (by omega),List.getElem?_drop]
    rw [show o+vs.length+(i - o - vs.length)=i by omega]
    simpa using hv
 unfold AC.splice at h
 split at h
 ·rename_i xs ys
  simp only [Option.some.injEq,Prod.mk.injEq] at h
  obtain⟨rfl,rfl⟩:=h
  have hb:=hk (((o+ys.length:Nat):Int),(xs.length:Int)) (by simp)
  simp only at hb
  have hyl:ys.length=vs.length:=hn.len
  have hxl:xs.length<=D.size:=hsz
  have hl:o+vs.length<=D.size:=by omega
  refine⟨hl,by simp [AC.size];omega,fun i a ha=>put hl i a ?_⟩
  simp only [AC.get?] at ha
  have ht:(xs.take o).length=o:=by simp;omega
  rw [List.append_assoc] at ha
  by_cases h1:i < o
  ·rw [List.getElem?_append_left (by rw [ht];exact h1),List.getElem?_take_of_lt h1] at ha
   exact .inr ⟨.inl h1,hD i a ha⟩
  ·rw [List.getElem?_append_right (by rw [ht];omega),ht] at ha
   by_cases h2:i - o < ys.length
   ·rw [List.getElem?_append_left h2] at ha
    obtain⟨v,hv,hr⟩:=hn.get (i - o) a ha
    exact .inl ⟨i - o,by omega,v,hv,hr⟩
   ·rw [List.getElem?_append_right (by omega),List.getElem?_drop,show o+ys.length+(i - o - ys.length)=i by omega] at ha
    exact .inr ⟨.inr (by omega),hD i a ha⟩
 ·rename_i x n ys
  cases e1:wJ x ys with
  | none=>rw [e1] at h;cases h
  | some q=>
   rw [e1] at h
   simp at h
   obtain⟨rfl,rfl⟩:=h
   obtain⟨k1,k2⟩:=aS.aA.1 hk
   simp only at k1
   have hyl:ys.length=vs.length:=hn.len
   have hnl:n<=D.size:=hsz
   have hl:o+vs.length<=D.size:=by omega
   refine⟨hl,rfl,fun i a ha=>put hl i a ?_⟩
   simp only [AC.get?] at ha
   split at ha
   ·rename_i hi
    cases ha
    by_cases h1:o<=i/\i < o+vs.length
    ·obtain⟨v,hv,hr⟩:=hn.get (i - o) (ys[i - o]'(by omega)) (by simp only [AC.get?];exact List.getElem?_eq_getElem (by omega))
     exact .inl ⟨i - o,by omega,v,hv,sG e1 k2 (i - o) _ (List.getElem?_eq_getElem (by omega)) σ N v hr⟩
    ·exact .inr ⟨by omega,hD i x (by simp [AC.get?,hi])⟩
   ·cases ha
 ·rename_i n m
  simp only [Option.some.injEq,Prod.mk.injEq] at h
  obtain⟨rfl,rfl⟩:=h
  have hb:=hk (((o+m:Nat):Int),(n:Int)) (by simp)
  simp only at hb
  have hml:m=vs.length:=hn.len
  have hnl:n<=D.size:=hsz
  have hl:o+vs.length<=D.size:=by omega
  refine⟨hl,rfl,fun i a ha=>put hl i a ?_⟩
  simp only [AC.get?] at ha
  split at ha
  ·rename_i hi
   cases ha
   by_cases h1:o<=i/\i < o+vs.length
   ·obtain⟨v,hv,hr⟩:=hn.get (i - o) (.f .top) (by simp only [AC.get?];rw [if_pos (by omega)])
    exact .inl ⟨i - o,by omega,v,hv,hr⟩
   ·exact .inr ⟨by omega,hD i _ (by simp [AC.get?,hi])⟩
  ·cases ha
 ·cases h
theorem Nh {dT sT ty:TypeId} {d s:AV} {c:aS} {v:AV} {e:Ef} (r:eF σ g N w) (b:Base w0 σ g w) (h:T9 P dT d s g=some (c,v,e)) (hc:c.ok) {D S:Value} (hd:af σ N d D) (hs:af σ N s S):
  vS P w0 σ g N w (do pure (.value (<- Builtin.copy_ #[dT,sT] ty #[D,S]))) v e:=by
 unfold T9 at h
 split at h
 ·rename_i el hu
  split at h
  ·cases h
  ·rename_i z hz
   split at h
   ·rename_i a n cp es b' m cp' es'
    obtain⟨A,C,rfl,-,-,-⟩:=zA hd
    obtain⟨A',C',rfl,-,-,-⟩:=zA hs
    split at h
    ·rename_i hmin
     simp only [Option.some.injEq,Prod.mk.injEq] at h
     obtain⟨rfl,rfl,rfl⟩:=h
     refine vS.val r b (x:= .int .i64 0) ?_ (oI _ _)
     have hm0:Nat.min m n=0:=hmin
     cases A<;>cases A'<;>simp [Builtin.copy_,run_underlying hu,Builtin.lenOf,hm0,aT hz,Builtin.firstCells,loadCells,loadCellsFrom,storeCells,goInt]
    ·rename_i q hmin
     split at h
     ·rename_i c1 new d0 o hsrc
      split at h
      ·rename_i hes
       obtain⟨rfl,hat⟩:=hes
       split at h
       ·rename_i old hgd
        split at h
        ·rename_i c2 all hsp
         simp only [Option.some.injEq,Prod.mk.injEq] at h
         obtain⟨rfl,rfl,rfl⟩:=h
         obtain⟨k1,k2⟩:=aS.aU.1 hc
         have hmn:Nat.min m n=q+1:=hmin
         have hqm:q+1<=m:=by have:=Nat.min_le_left m n;omega
         have hqn:q+1<=n:=by have:=Nat.min_le_right m n;omega
         have hs2:af σ N (.s b' (q+1) cp' es') (.slice A' (q+1) C'):=by
          rcases b' with _ | ⟨d1,o1⟩
          ·simp only [af] at hs;omega
          ·simp only [af] at hs ⊢
           obtain⟨hN,A1,C1,e1,p1,p2,p3⟩:=hs
           injection e1 with e1 _ e2
           subst e1 e2
           refine⟨hN,_,_,rfl,p1,fun _=>?_,p3.1,Nat.le_trans hqm p3.2⟩
           obtain⟨x1,x2,x3⟩:=p2 (by omega)
           exact⟨x1,by omega,x3⟩
         obtain⟨A2,C2,news,e1,hT,hl,hcells,_⟩:=BR r rfl hsrc k1 hs2
         injection e1 with e1 _ e2
         subst e1 e2
         replace hcells:=hcells (by omega)
         obtain⟨qa,rfl,hcells⟩:=hcells
         simp only [af] at hd
         obtain⟨_,A1,C1,e1,_,hA,_⟩:=hd
         injection e1 with e1 _ e2
         subst e1 e2
         obtain⟨rfl,hnC,hCs⟩:=hA (by omega)
         obtain⟨R,Ur,hR,hRs,hRo,hRg⟩:=kr r hgd
         obtain⟨hl1,hl2,hl3⟩:=Ng hsp k2 hRg hRo hT
         have hone:∀v∈news,v.oneCell'=true:=hT.atoms hat
         have hst:=run_storeCells_at P (σ.at_ d0) o Ur news 0 R w hR (by omega) hone
         simp only [Nat.add_zero] at hst
         have hf:=run_firstCells_some (P:=P) w es (q+1) qa m C' news hl hcells
         have hrun:(Builtin.copy_ #[dT,sT] ty #[.slice (some ⟨σ.at_ d0,o,none⟩) n C, .slice (some qa) m C']).run P w= .ok (.int .i64 ((q+1:Nat):Int)) (w.setRow (σ.at_ d0) (R.toList.take o++news++R.toList.drop (o+news.length)).toArray):=by
          simp [Builtin.copy_,run_underlying hu,Builtin.lenOf,hmn,aT hz,hf,hst,goInt]
         refine⟨.value (.int .i64 ((q+1:Nat):Int)),_,_,by simp [hrun],Post.set r b d0 _ _ (.cells (R.toList.take o++news++R.toList.drop (o+news.length)).toArray Ur (0,0)) hgd rfl ⟨_,Ur,(0,0),rfl,?_,?_,fun _=>rfl,hl3⟩ (setRow_size _ _ _) (fun k hk=>setRow_other _ _ _ _ hk) (setRow_heap _ _ _ _ _ _ hR) rfl rfl rfl,trivial, .inl ⟨_,rfl,oI _ _⟩⟩
         ·rw [oJ hl1];exact hRs
         ·rw [hl2];omega
        ·cases h
       ·cases h
      ·cases h
     ·cases h
   ·cases h
 ·cases h
end
end Go.AM
namespace Go.AM
open Go Go.RowKit
section
variable {P:Program} {w0:World} {σ:aZ} {g:Mem} {N:Nat} {w:World}
def oK (P:Program) (t:TypeId) (v:Value):Prop:=
 (∃(k:IntKind) (n:Int),v= .int k n/\P.underlying t=some (.int k))\/
 (∃(k:IntKind) (e:TypeId) (ns:List Int),v= .agg (ns.map (Value.int k)).toArray/\P.underlying t=some (.array ns.length e)/\P.underlying e=some (.int k)/\bu P e=some 1)
theorem zB {k:IntKind}:∀{xs:List AV} {vs:List Value},ai σ N xs vs->(xs.all fun | .i k' (some _)=>k=k' | _=>false)=true->∃ns:List Int,xs=ns.map (fun n=>AV.i k (some n))/\vs=ns.map (Value.int k)
 | [],vs,r,_=>by simp only [ai] at r;subst r;exact⟨[],rfl,rfl⟩
 | a::xs,vs,r,h=>by
  simp only [ai] at r
  obtain⟨v,q,rfl,h1,h2⟩:=r
  simp only [List.all_cons,Bool.and_eq_true] at h
  obtain⟨ha,hx⟩:=h
  obtain⟨ns,rfl,rfl⟩:=zB h2 hx
  split at ha
  ·rename_i k' n
   simp at ha
   subst ha
   simp only [af] at h1
   subst h1
   exact⟨n::ns,rfl,rfl⟩
  ·cases ha
theorem E9 {t:TypeId} {x:AV} {X:Value} (h:iR P t x=true) (hx:af σ N x X):oK P t X:=by
 unfold iR at h
 split at h
 ·rename_i k n
  split at h
  ·rename_i k' hu
   simp at h;subst h
   simp only [af] at hx;subst hx
   exact .inl ⟨_,_,rfl,hu⟩
  ·cases h
 ·rename_i xs
  split at h
  ·rename_i n e hu
   split at h
   ·rename_i k he
    simp only [Bool.and_eq_true,beq_iff_eq,decide_eq_true_eq,Bool.not_eq_true'] at h
    obtain⟨⟨⟨⟨h1,h2⟩,h3⟩,h4⟩,h5⟩:=h
    simp only [af] at hx
    obtain⟨vs,rfl,hr⟩:=hx
    obtain⟨ns,rfl,hvs⟩:=zB hr h5
    refine .inr ⟨k,e,ns,?_,?_,he,h3⟩
    ·congr 1;exact Array.toList_inj.1 (by simpa using hvs)
    ·rw [hu];simp at h1;rw [h1]
   ·cases h
  ·cases h
 ·cases h
theorem jB {t:TypeId} {X:Value} (h:oK P t X) (b:Bool) (d:Nat) (w:World):(Instr.checkKey b (d+1+1) t X).run P w= .ok () w:=by
 rcases h with⟨k,n,rfl,hu⟩ | ⟨k,e,ns,rfl,hu,he,hs⟩
 ·simp [Instr.checkKey,run_underlying hu]
 ·have hpart:∀j,j < ns.length->∃n,∀w:World,(part e (ns.map (Value.int k)).toArray (j*1)).run P w= .ok (.int k n) w:=fun j hj=>⟨ns[j],fun w=>lZ he (by simp [hj]) w⟩
  unfold Instr.checkKey
  simp only [Sem.run_bind,run_underlying hu,Result.andThen_ok]
  simp only [Std.Legacy.Range.forIn_eq_forIn_range',Std.Legacy.Range.size,Nat.sub_zero,Nat.add_one_sub_one,Nat.div_one]
  have:∀(l:List Nat) (w:World),(∀j∈l,j < ns.length)->(forIn l PUnit.unit (fun i _=>do
    Instr.checkKey b (d+1) e (<- part e (ns.map (Value.int k)).toArray (i*(<- sizeOf e)))
    pure (ForInStep.yield PUnit.unit)):Sem PUnit).run P w= .ok PUnit.unit w:=by
   intro l
   induction l with
   | nil=>intro w _;simp
   | cons j l ih=>
    intro w hl
    obtain⟨n,hn⟩:=hpart j (hl j (by simp))
    simp only [List.forIn_cons,Sem.run_bind,aT hs,Result.andThen_ok,hn]
    simp only [Instr.checkKey,Sem.run_bind,run_underlying he,Result.andThen_ok,Sem.run_pure]
    exact ih w fun q hq=>hl q (by simp [hq])
  have:=this (List.range' 0 ns.length) w (fun j hj=>by simpa using hj)
  rw [this]
  rfl
theorem sK {e:TypeId} {k:IntKind} (he:P.underlying e=some (.int k)) (d:Nat) (xs ys:List Int) (hl:xs.length=ys.length) (w:World):∀(m o:Nat),o+m=xs.length->
  (Op.eqItems (d+1) e 1 (xs.map (Value.int k)).toArray (ys.map (Value.int k)).toArray (List.range' o m)).run P w= .ok (xs.drop o==ys.drop o) w
 | 0,o,h=>by
  simp [Op.eqItems,List.drop_eq_nil_of_le (show xs.length<=o by omega),List.drop_eq_nil_of_le (show ys.length<=o by omega)]
 | m+1,o,h=>by
  have h1:o < xs.length:=by omega
  have h2:o < ys.length:=by omega
  have p1:=lZ (P:=P) he (cs:=(xs.map (Value.int k)).toArray) (o:=o*1) (v:= .int k xs[o]) (by simp [h1]) w
  have p2:=lZ (P:=P) he (cs:=(ys.map (Value.int k)).toArray) (o:=o*1) (v:= .int k ys[o]) (by simp [h2]) w
  rw [List.range'_succ]
  simp only [Op.eqItems,Sem.run_bind,p1,p2,Result.andThen_ok,run_equalIn_int w d e k k _ _ he]
  rw [List.drop_eq_getElem_cons h1,List.drop_eq_getElem_cons h2]
  show _=Result.ok ((xs[o]==ys[o])&&(xs.drop (o+1)==ys.drop (o+1))) w
  cases hb:xs[o]==ys[o]
  ·rfl
  ·have:=sK he d xs ys hl w m (o+1) (by omega)
   simp only [Bool.not_true,Bool.false_eq_true,if_false,Bool.true_and]
   exact this
theorem wM {k:IntKind}:∀(ns ms:List Int) {b:Bool},lX (ns.map fun n=>AV.i k (some n)) (ms.map fun n=>AV.i k (some n))=some b->ns.length=ms.length/\b=(ns==ms)
 | [],[],b,h=>by simp only [List.map_nil,lX,Option.some.injEq] at h;subst h;exact⟨rfl,rfl⟩
 | [],m::ms,b,h=>by simp [lX] at h
 | n::ns,[],b,h=>by simp [lX] at h
 | n::ns,m::ms,b,h=>by
  simp only [List.map_cons,lX,AV.sameKey,if_true] at h
  split at h
  ·rename_i x y hx hy
   injection h with h
   injection hx with hx
   obtain⟨h1,h2⟩:=wM ns ms hy
   refine⟨by simp [h1],?_⟩
   subst h hx h2
   simp
  ·cases h
theorem Sv {t:TypeId} {x y:AV} {b:Bool} (hk:iR P t x=true) (hk':iR P t y=true) (h:x.sameKey y=some b) {X Y:Value} (hx:af σ N x X) (hy:af σ N y Y) (w:World):(Op.equal t X Y).run P w= .ok b w/\(b=true->X=Y):=by
 suffices H:∀D,(Op.equalIn (D+1+1) t X Y).run P w= .ok b w/\(b=true->X=Y) from H 9998
 intro D
 unfold AV.sameKey at h
 split at h
 ·rename_i k a k' b'
  split at h
  ·rename_i e;subst e
   injection h with h;subst h
   simp only [af] at hx hy;subst hx hy
   unfold iR at hk
   simp only at hk
   split at hk
   ·rename_i q hu
    exact⟨run_equalIn_int w _ t k q a b' hu,fun e=>by rw [eq_of_beq e]⟩
   ·cases hk
  ·cases h
 ·rename_i xs ys
  unfold iR at hk hk'
  simp only at hk hk'
  split at hk
  ·rename_i n e hu
   rw [hu] at hk'
   simp only at hk'
   split at hk
   ·rename_i k he
    rw [he] at hk'
    simp only [Bool.and_eq_true,beq_iff_eq,decide_eq_true_eq,Bool.not_eq_true'] at hk hk'
    obtain⟨⟨⟨⟨h1,_⟩,h3⟩,_⟩,h5⟩:=hk
    obtain⟨⟨⟨⟨h1',_⟩,_⟩,_⟩,h5'⟩:=hk'
    simp only [af] at hx hy
    obtain⟨X,rfl,hx⟩:=hx
    obtain⟨Y,rfl,hy⟩:=hy
    obtain⟨ns,rfl,hX⟩:=zB hx h5
    obtain⟨ms,rfl,hY⟩:=zB hy h5'
    obtain⟨l1,rfl⟩:=wM ns ms h
    obtain rfl:X=(ns.map (Value.int k)).toArray:=Array.toList_inj.1 (by simpa using hX)
    obtain rfl:Y=(ms.map (Value.int k)).toArray:=Array.toList_inj.1 (by simpa using hY)
    simp at h1
    obtain⟨i,hi,hsz⟩:=vC h3
    have hc:P.cellsOf e=1:=by simp [Program.cellsOf,hi,hsz]
    refine⟨?_,fun e=>by rw [eq_of_beq e]⟩
    rw [run_equalIn_array w (D+1) _ _ hu hi,hc, <- h1]
    have:=sK (P:=P) he D ns ms l1 w ns.length 0 (by omega)
    simpa [List.range_eq_range'] using this
   ·cases hk
  ·cases hk
 ·cases h
def Found (σ:aZ) (N:Nat) (x:AV) (es:List (AV×AV)) (E:List MapEntry) (X:Value) (i:Nat) (r:Option AV) (R:Option (Nat×Value)):Prop:=
 af σ N x X->
 ((r=none/\R=none/\∀v V b,af σ N v V->kg σ N (Pv x v es) (E++[{key:=X,val:=V,born:=b}]))\/
 ∃v j V,r=some v/\R=some (i+j,V)/\af σ N v V/\(∃e,E[j]?=some e/\e.key=X)/\∀v' V',af σ N v' V'->kg σ N (Pv x v' es) (E.modify j fun e=>{e with key:=X,val:=V'}))
theorem Found.next {x k u:AV} {es:List (AV×AV)} {E:List MapEntry} {X:Value} {i:Nat} {r:Option AV} {R:Option (Nat×Value)} (h:Found σ N x es E X (i+1) r R) (e:MapEntry) (hs:x.sameKey k=some false) (h1:af σ N k e.key) (h2:af σ N u e.val):
  Found σ N x ((k,u)::es) (e::E) X i r R:=by
 intro hx
 rcases h hx with⟨p1,p2,p3⟩ | ⟨v,j,V,p1,p2,p3,p4,p5⟩
 ·refine .inl ⟨p1,p2,fun v V b hv=>?_⟩
  simp only [Pv,hs]
  exact⟨e,_,rfl,h1,h2,p3 v V b hv⟩
 ·refine .inr ⟨v,j+1,V,p1,by rw [p2];congr 2;omega,p3,by simpa using p4,fun v' V' hv=>?_⟩
  simp only [Pv,hs]
  exact⟨e,_,rfl,h1,h2,p5 v' V' hv⟩
theorem Found.nil {x:AV} {X:Value} {i:Nat}:Found σ N x [] [] X i none none:=fun hx=> .inl ⟨rfl,rfl,fun v V b hv=>⟨_,[],rfl,hx,hv,rfl⟩⟩
theorem Found.here {x k u:AV} {es:List (AV×AV)} {E:List MapEntry} {X:Value} {i:Nat} (e:MapEntry) (hs:x.sameKey k=some true) (hX:e.key=X) (h2:af σ N u e.val) (hr:kg σ N es E):
  Found σ N x ((k,u)::es) (e::E) X i (some u) (some (i,e.val)):=fun hx=>
 .inr ⟨u,0,e.val,rfl,rfl,h2,⟨e,rfl,hX⟩,fun v' V' hv=>by simp only [Pv,hs];exact⟨_,E,rfl,hx,hv,hr⟩⟩
theorem C9 {t:TypeId} {x:AV} {X:Value} (hk:iR P t x=true) (hx:af σ N x X):∀{es:List (AV×AV)} {E:List MapEntry} {r:Option AV} (i:Nat),kg σ N es E->es.all (fun e=>iR P t e.1)=true->je x es=some r->∀w:World,
  ∃R,(Instr.findAsking t X E i).run P w= .ok R w/\Found σ N x es E X i r R
 | [],E,r,i,hr,_,h,w=>by
  simp only [kg] at hr;subst hr
  simp only [je,Option.some.injEq] at h;subst h
  exact⟨none,rfl,Found.nil⟩
 | (k,v)::es,E,r,i,hr,ha,h,w=>by
  simp only [kg] at hr
  obtain⟨e,q,rfl,hk1,hv1,hr1⟩:=hr
  simp only [List.all_cons,Bool.and_eq_true] at ha
  simp only [je] at h
  cases hs:x.sameKey k with
  | none=>rw [hs] at h;cases h
  | some b=>
   rw [hs] at h
   obtain⟨he,hX⟩:=Sv hk ha.1 hs hx hk1 w
   cases b with
   | true=>
    simp only [Option.some.injEq] at h
    subst h
    refine⟨some (i,e.val),?_,Found.here e hs (hX rfl).symm hv1 hr1⟩
    simp [Instr.findAsking,he]
   | false=>
    simp only at h
    obtain⟨R,hR,hm⟩:=C9 hk hx (i+1) hr1 ha.2 h w
    exact⟨R,by simp [Instr.findAsking,he,hR],hm.next e hs hk1 hv1⟩
theorem Ni {t:TypeId} {k:IntKind} {n:Int} {x:AV} (hxx:x= .i k (some n)) (hu:P.underlying t=some (.int k)) (hk:iR P t x=true):∀{es:List (AV×AV)} {E:List MapEntry} {r:Option AV} (i:Nat),kg σ N es E->es.all (fun e=>iR P t e.1)=true->je x es=some r->
  ∃R,Instr.findNow (.int k) (.int k n) E i=some R/\Found σ N x es E (.int k n) i r R
 | [],E,r,i,hr,_,h=>by
  simp only [kg] at hr;subst hr
  simp only [je,Option.some.injEq] at h;subst h
  exact⟨none,rfl,Found.nil⟩
 | (k1,v)::es,E,r,i,hr,ha,h=>by
  subst hxx
  simp only [kg] at hr
  obtain⟨e,q,rfl,hk1,hv1,hr1⟩:=hr
  simp only [List.all_cons,Bool.and_eq_true] at ha
  simp only [je] at h
  have hk2:∃m,k1= .i k (some m):=by
   have:=ha.1
   unfold iR at this
   simp only at this
   split at this
   ·rename_i k2 m
    rw [hu] at this
    simp at this
    exact⟨m,by rw [this]⟩
   ·rename_i xs
    rw [hu] at this
    cases this
   ·cases this
  obtain⟨m,rfl⟩:=hk2
  simp only [af] at hk1
  simp only [AV.sameKey,if_true] at h
  have hs:Instr.sameNow (.int k) (.int k n) e.key=some (n==m):=by rw [hk1];simp [Instr.sameNow]
  cases hb:n==m with
  | true=>
   rw [hb] at h hs
   simp only [Option.some.injEq] at h
   subst h
   exact⟨some (i,e.val),by simp [Instr.findNow,hs],Found.here e (by simp [AV.sameKey,hb]) (by rw [hk1,eq_of_beq hb]) hv1 hr1⟩
  | false=>
   rw [hb] at h hs
   simp only at h
   obtain⟨R,hR,hm⟩:=Ni rfl hu hk (i+1) hr1 ha.2 h
   exact⟨R,by simp [Instr.findNow,hs,hR],hm.next e (by simp [AV.sameKey,hb]) (by rw [hk1];simp [af]) hv1⟩
theorem FQ {t:TypeId} {x:AV} {X:Value} (hk:iR P t x=true) (hx:af σ N x X) {es:List (AV×AV)} {E:List MapEntry} {r:Option AV} (hr:kg σ N es E) (ha:es.all (fun e=>iR P t e.1)=true) (h:je x es=some r) (w:World):
  ∃R,(Instr.findKey t X E).run P w= .ok R w/\Found σ N x es E X 0 r R:=by
 have hka:=E9 hk hx
 rcases hka with⟨k,n,rfl,hu⟩ | ⟨k,e,ns,rfl,hu,he,hs⟩
 ·have hxx:x= .i k (some n):=by
   unfold iR at hk
   split at hk
   ·simp only [af] at hx;injection hx with h1 h2;subst h1 h2;rfl
   ·simp only [af] at hx;obtain⟨_,hx,_⟩:=hx;cases hx
   ·cases hk
  obtain⟨R,hR,hm⟩:=Ni hxx hu hk 0 hr ha h
  exact⟨R,by simp [Instr.findKey,run_underlying hu,hR],hm⟩
 ·obtain⟨R,hR,hm⟩:=C9 hk hx 0 hr ha h w
  refine⟨R,?_,hm⟩
  have hn:∀i,Instr.findNow (.array ns.length e) (.agg (ns.map (Value.int k)).toArray) E i=none\/E=[]:=by
   intro i
   cases E with
   | nil=>exact .inr rfl
   | cons a E=>left;simp [Instr.findNow,Instr.sameNow]
  rcases hn 0 with hn | rfl
  ·simp [Instr.findKey,run_underlying hu,hn,hR]
  ·simp [Instr.findKey,run_underlying hu,Instr.findNow]
   have:(Instr.findAsking t (.agg (ns.map (Value.int k)).toArray) [] 0).run P w= .ok none w:=rfl
   rw [this] at hR
   injection hR
theorem oL {t:TypeId} {X:Value} (h:oK P t X) (w:World):(Instr.keyThatStays X X).run P w= .ok X w:=by
 have:Instr.sameBits 10000 X X=true:=by
  suffices H:∀n,Instr.sameBits (n+1) X X=true from H 9999
  intro n
  rcases h with⟨k,m,rfl,_⟩ | ⟨k,e,ns,rfl,_⟩
  ·simp [Instr.sameBits]
  ·simp only [Instr.sameBits,BEq.rfl,Bool.true_and,List.all_eq_true]
   intro p hp
   obtain⟨a,b⟩:=p
   have hz:∀(l:List Value) (p:Value×Value),p∈l.zip l->p.1=p.2/\p.1∈l:=by
    intro l
    induction l with
    | nil=>intro p hp;cases hp
    | cons x l ih=>
     intro p hp
     simp only [List.zip_cons_cons,List.mem_cons] at hp
     rcases hp with rfl | hp
     ·exact⟨rfl,by simp⟩
     ·exact⟨(ih p hp).1,by simp [(ih p hp).2]⟩
   obtain⟨h1,h2⟩:=hz _ _ hp
   simp only at h1 h2
   subst h1
   simp only [List.mem_map] at h2
   obtain⟨q,_,rfl⟩:=h2
   cases n<;>simp [Instr.sameBits]
 simp [Instr.keyThatStays,this]
theorem JM {r:Nat} {es:List (AV×AV)} (h:eF σ g N w) (hd:g r=some (.map es)):r < N/\∃E clock,w.heap[σ.at_ r]?=some (.map E clock)/\kg σ N es E.toList:=by
 obtain⟨hN,O,hO,E,clock,rfl,hr⟩:=h.ob r _ hd
 exact⟨hN,E,clock,hO,hr⟩
theorem wN {t:TypeId} {m k v:AV} {e:Ef} (r:eF σ g N w) (b:Base w0 σ g w) (h:KT P t m k v g=some e) {M K V:Value} (hm:af σ N m M) (hk:af σ N k K) (hv:af σ N v V):
  (∃d o,e= .set d o)/\∃w',(Instr.mapUpdate t M K V).run P w= .ok () w'/\Post w0 σ g N w σ (e.mem g N) (e.TL N) w':=by
 unfold KT at h
 split at h
 ·rename_i kt e0 d hu
  split at h
  ·rename_i es hg
   split at h
   ·rename_i hc
    obtain⟨hko,hall,hf⟩:=hc
    injection h with h;subst h
    obtain⟨hN,E,clock,hE,hrel⟩:=JM r hg
    cases hfa:je k es with
    | none=>rw [hfa] at hf;cases hf
    | some ra=>
     obtain⟨R,hR,hF⟩:=FQ hko hk hrel hall hfa w
     have hkv:=E9 hko hk
     simp only [af] at hm
     obtain⟨_,rfl⟩:=hm
     have hck:=jB hkv false 9998 w
     rcases hF hk with⟨rfl,rfl,hp⟩ | ⟨v0,j,V0,rfl,rfl,_,⟨en,hj,hen⟩,hp⟩
     ·have hrun:(Instr.mapUpdate t (.map (some (σ.at_ d))) K V).run P w= .ok () {w with heap:=w.heap.setIfInBounds (σ.at_ d) (.map (E.push {key:=K,val:=V,born:=clock}) (clock+1))}:=by
       simp [Instr.mapUpdate,run_underlying hu,MapKept.run_getObj_map hE,hck,hR,MapKept.run_setObj_map _ hE]
      refine⟨⟨_,_,rfl⟩,_,hrun,?_⟩
      refine Post.set r b d _ _ (.map (E.push {key:=K,val:=V,born:=clock}) (clock+1)) hg rfl ⟨_,_,rfl,?_⟩ (by simp) (fun q hq=>(MapKept.heap_set hE).2 q hq) (MapKept.heap_set hE).1 rfl rfl rfl
      have:=hp v V clock hv
      simpa using this
     ·have hj':E[0+j]?=some en:=by simpa using hj
      have hj2:E[j]?=some en:=by simpa using hj
      have hks:((Option.map (fun x=>x.key) E[0+j]?).getD K)=K:=by rw [hj'];exact hen
      have hrun:(Instr.mapUpdate t (.map (some (σ.at_ d))) K V).run P w= .ok () {w with heap:=w.heap.setIfInBounds (σ.at_ d) (.map (E.modify (0+j) fun e=>{e with key:=K,val:=V}) clock)}:=by
       simp only [Instr.mapUpdate,Sem.run_bind,run_underlying hu,MapKept.run_getObj_map hE,Result.andThen_ok,hck,hR,hks,oL hkv,MapKept.run_setObj_map _ hE]
      refine⟨⟨_,_,rfl⟩,_,hrun,?_⟩
      refine Post.set r b d _ _ (.map (E.modify (0+j) fun e=>{e with key:=K,val:=V}) clock) hg rfl ⟨_,_,rfl,?_⟩ (by simp) (fun q hq=>(MapKept.heap_set hE).2 q hq) (by simpa using (MapKept.heap_set (o':= .map (E.modify (0+j) fun e=>{e with key:=K,val:=V}) clock) hE).1) rfl rfl rfl
      have:=hp v V hv
      simpa using this
   ·cases h
  ·cases h
 ·cases h
theorem yu {k v:AV}:∀{es:List (AV×AV)},je k es=some (some v)->∃e∈es,k.sameKey e.1=some true/\e.2=v
 | [],h=>by cases h
 | (a,u)::r,h=>by
  simp only [je] at h
  split at h
  ·rename_i hs;simp only [Option.some.injEq] at h;exact⟨(a,u),by simp,hs,h⟩
  ·obtain⟨e,he,h1⟩:=yu h
   exact⟨e,by simp [he],h1⟩
  ·cases h
theorem JN {k:AV}:∀{es:List (AV×AV)},es.all (fun e=>(k.sameKey e.1).isSome)=true->∀e∈es,k.sameKey e.1=some true->∃v,je k es=some (some v)
 | [],_,e,he,_=>by cases he
 | (a,u)::r,h,e,he,hs=>by
  simp only [List.all_cons,Bool.and_eq_true] at h
  simp only [je]
  cases hq:k.sameKey a with
  | none=>rw [hq] at h;cases h.1
  | some b=>
   cases b with
   | true=>exact⟨u,rfl⟩
   | false=>
    rcases List.mem_cons.1 he with rfl | he
    ·rw [hq] at hs;cases hs
    ·exact JN h.2 e he hs
theorem PM {k v:AV} {es es':List (AV×AV)} (hp:es.Perm es') (h1:oneOf k es=true) (h:je k es=some (some v)):je k es'=some (some v):=by
 simp only [oneOf,Bool.and_eq_true,decide_eq_true_eq] at h1
 obtain⟨e,he,hs,rfl⟩:=yu h
 have ha:es'.all (fun e=>(k.sameKey e.1).isSome)=true:=List.all_eq_true.2 fun x hx=>List.all_eq_true.1 h1.1 x (hp.mem_iff.2 hx)
 obtain⟨v',hv'⟩:=JN ha e (hp.mem_iff.1 he) hs
 obtain⟨e',he',hs',rfl⟩:=yu hv'
 have m1:e∈es.filter fun e=>k.sameKey e.1==some true:=List.mem_filter.2 ⟨he,by rw [hs];rfl⟩
 have m2:e'∈es.filter fun e=>k.sameKey e.1==some true:=List.mem_filter.2 ⟨hp.mem_iff.2 he',by rw [hs'];rfl⟩
 have:e'=e:=by
  revert m1 m2 h1
  cases es.filter fun e=>k.sameKey e.1==some true with
  | nil=>intro _ m1;cases m1
  | cons x l=>
   intro h1 m1 m2
   cases l with
   | nil=>simp at m1 m2;rw [m1,m2]
   | cons y l=>simp at h1
 rw [hv',this]
theorem IY {t:TypeId} {m k v:AV} {ok:Bool} (r:eF σ g N w) (h:KU P t m k ok g=some v) {M K:Value} (hm:af σ N m M) (hk:af σ N k K):Gives P σ N w (Instr.lookup t M K ok) v:=by
 unfold KU at h
 split at h
 ·rename_i kt e0 d hu
  split at h
  ·rename_i es hg
   split at h
   ·rename_i hc
    obtain⟨hko,hall⟩:=hc
    obtain⟨hN,E,clock,hE,hrel⟩:=JM r hg
    cases hfa:je k es with
    | none=>rw [hfa] at h;simp at h
    | some ra=>
     obtain⟨R,hR,hF⟩:=FQ hko hk hrel hall hfa w
     have hkv:=E9 hko hk
     simp only [af] at hm
     obtain⟨_,rfl⟩:=hm
     have hck:=jB hkv E.isEmpty 9998 w
     rw [hfa] at h
     rcases hF hk with⟨rfl,rfl,hp⟩ | ⟨v0,j,V0,rfl,rfl,hv0,_,_⟩
     ·cases hz:qW P e0 with
      | none=>rw [hz] at h;cases h
      | some z=>
       rw [hz] at h
       obtain⟨Z,hZ,rfl⟩:=Um hz w
       have su:=vw (σ:=σ) (N:=N) Z
       injection h with h
       refine Gives.of (x:=if ok then .tuple #[Z, .bool false] else Z) ?_ ?_
       ·cases ok<;>simp [Instr.lookup,run_underlying hu,MapKept.run_getObj_map hE,hck,hR,hZ]
       ·subst h
        cases ok
        ·exact su
        ·simp [af,ai,su]
     ·simp only [Option.some.injEq] at h
      refine Gives.of (x:=if ok then .tuple #[V0, .bool true] else V0) ?_ ?_
      ·cases ok<;>simp [Instr.lookup,run_underlying hu,MapKept.run_getObj_map hE,hck,hR]
      ·subst h
       cases ok
       ·exact hv0
       ·simp [af,ai,hv0]
   ·cases h
  ·rename_i es hg
   split at h
   ·rename_i hc
    obtain⟨hko,hall,hone⟩:=hc
    obtain⟨hN,O,hO,E,clock,es',rfl,hpm,hrel⟩:=r.ob d _ hg
    cases hfa:je k es with
    | none=>rw [hfa] at h;cases h
    | some ra=>
     cases ra with
     | none=>rw [hfa] at h;cases h
     | some v0=>
      rw [hfa] at h
      have hfb:=PM hpm hone hfa
      have hall':es'.all (fun e=>iR P kt e.1)=true:=List.all_eq_true.2 fun x hx=>List.all_eq_true.1 hall x (hpm.mem_iff.2 hx)
      obtain⟨R,hR,hF⟩:=FQ hko hk hrel hall' hfb w
      have hkv:=E9 hko hk
      simp only [af] at hm
      obtain⟨_,rfl⟩:=hm
      have hck:=jB hkv E.isEmpty 9998 w
      rcases hF hk with⟨hx,_⟩ | ⟨v1,j,V0,hx,rfl,hv0,_,_⟩
      ·cases hx
      ·injection hx with hx;subst hx
       simp only [Option.some.injEq] at h
       refine Gives.of (x:=if ok then .tuple #[V0, .bool true] else V0) ?_ ?_
       ·cases ok<;>simp [Instr.lookup,run_underlying hu,MapKept.run_getObj_map hO,hck,hR]
       ·subst h
        cases ok
        ·exact hv0
        ·simp [af,ai,hv0]
   ·cases h
  ·cases h
 ·cases h
end
end Go.AM
namespace Go.AM
open Go Go.RowKit
section
variable {P:Program} {w0:World} {σ:aZ} {g:Mem} {N:Nat} {w:World}
theorem ZF (mx:Bool) (x y t:Nat):(Question.nanMinMax .f64 mx x y).cut t < 18446744073709551616:=by
 have e:(Question.nanMinMax .f64 mx x y).cut t=(t % 2)*9223372036854775808+9218868437227405312+1+(t / 2) % 4503599627370495:=by
  show(t % 2)*2 ^ 63+0x7ff0000000000000+1+(t / 2) % (2 ^ 52 - 1)=_
  simp only [Nat.reducePow,Nat.reduceSub]
 rw [e]
 have h1:=Nat.mod_lt t (show 0 < 2 by decide)
 have h2:=Nat.mod_lt (t / 2) (show 0 < 4503599627370495 by decide)
 generalize t % 2=p at*
 generalize t / 2 % 4503599627370495=q at*
 omega
theorem Nj {x:FD} {a:Nat} (h:x.small=true) (hx:af σ N (.f x) (.float .f64 a)):a < 18446744073709551616:=by
 cases x with
 | k w=>
  simp only [af] at hx
  injection hx with _ hx;subst hx
  simpa [FD.small,Nat.blt_eq] using h
 | top=>exact zt hx (by intro w h;cases h)
 | zr=>exact zt hx (by intro w h;cases h)
def mm (mx:Bool):Value->Value->Sem Value:=if mx then Builtin.max2 else Builtin.min2
theorem ZG {mx:Bool} {a b:Nat} (w:World):(∃r,fmm mx a b=some r/\(mm mx (.float .f64 a) (.float .f64 b)).run P w= .ok (.float .f64 r) w/\(r=a\/r=b))\/
  (fmm mx a b=none/\∃r,r < 18446744073709551616/\(mm mx (.float .f64 a) (.float .f64 b)).run P w= .ok (.float .f64 r) w.drew):=by
 unfold fmm
 have hk:FloatKind.f64.format=Ieee.double:=rfl
 cases ho:Ieee.double.order a b with
 | none=>
  right
  refine⟨rfl,_,ZF mx a b (w.tape w.drawn (.nanMinMax .f64 mx a b)),?_⟩
  cases mx<;>simp [mm,Builtin.max2,Builtin.min2,hk,ho,run_choose_drew,Question.forced]
 | some c=>
  left
  cases mx<;>cases c<;>simp [mm,Builtin.max2,Builtin.min2,hk,ho]
  all_goals (cases (FloatKind.f64.decode a).neg<;>simp)
theorem vE {mx:Bool} {x y v:AV} (h:amm mx x y=some v) {X Y:Value} (hx:af σ N x X) (hy:af σ N y Y):Gives P σ N w (mm mx X Y) v:=by
 unfold amm at h
 split at h
 ·injection h with h;subst h
  simp only [af] at hx hy;subst hx hy
  rename_i k a k' b
  cases mx
  ·refine Gives.of (x:= .int k (min a b)) ?_ (oI _ _)
   simp only [mm,Builtin.min2,Sem.run_pure,Bool.false_eq_true,if_false]
   congr 2
   rw [Int.min_def];split<;>split<;>omega
  ·refine Gives.of (x:= .int k (max a b)) ?_ (oI _ _)
   simp only [mm,Builtin.max2,Sem.run_pure,if_true]
   congr 2
   rw [Int.max_def];split<;>split<;>omega
 ·rename_i x y
  split at h
  ·rename_i hs
   simp only [Bool.and_eq_true] at hs
   obtain⟨a,rfl⟩:=iT hx
   obtain⟨b,rfl⟩:=iT hy
   have ha:=Nj hs.1 hx
   have hb:=Nj hs.2 hy
   have hv:v= .f .top\/∃l,fmm mx a b∈l/\v= .f (FD.wL l):=by
    split at h
    ·rename_i xs ys hxs hys
     injection h with h
     right
     refine⟨_,?_,h.symm⟩
     rw [List.mem_flatMap]
     refine⟨a,jM hx hxs,?_⟩
     rw [List.mem_map]
     exact⟨b,jM hy hys,rfl⟩
    ·injection h with h
     exact .inl h.symm
   rcases ZG (P:=P) (mx:=mx) (a:=a) (b:=b) w with⟨r,hr,hrun,hab⟩ | ⟨hn,r,hl,hrun⟩
   ·have hl:r < 18446744073709551616:=by rcases hab with rfl | rfl<;>assumption
    refine⟨_,?_, .inl hrun⟩
    rcases hv with rfl | ⟨l,hl',rfl⟩
    ·exact fw hl
    ·rw [hr] at hl';exact ym hl' hl
   ·refine⟨_,?_, .inr hrun⟩
    rcases hv with rfl | ⟨l,hl',rfl⟩
    ·exact fw hl
    ·rw [hn] at hl';rw [yt hl'];exact fw hl
  ·cases h
 ·cases h
theorem sM {x:Option (aS×AV)} {c:aS} {v:AV} {e:Ef} (h:ret x=some (c,v,e)):x=some (c,v)/\e= .none:=by
 unfold ret at h
 cases x with
 | none=>cases h
 | some p=>
  simp only [Option.map_some,Option.some.injEq,Prod.mk.injEq] at h
  obtain⟨h1,h2,h3⟩:=h
  exact⟨by rw [<- h1, <- h2],h3.symm⟩
theorem Nk {t:List AV} {a:Act} (ht:ai σ N t a.tmps.toList) (x:Option Operand):WG σ N (x.map (ev t)) (x.map a.eval):=by
 cases x with
 | none=>rfl
 | some x=>exact⟨_,rfl,aN ht x⟩
theorem fold_size:∀(l:List (Value×Nat)) (off:Nat) (C:Array Value),(l.foldl (fun cs (p:Value×Nat)=>cs.setIfInBounds (off+p.2) p.1) C).size=C.size
 | [],off,C=>rfl
 | p::l,off,C=>by rw [List.foldl_cons,fold_size l];simp
theorem JO {place:Nat->Option (Nat×Nat)}:∀(qs:List (Nat×Value)) (C R:Array Value),Instr.fill place C qs=some R->R.size=C.size
 | [],C,R,h=>by simp only [Instr.fill,Option.some.injEq] at h;rw [h]
 | (i,v)::qs,C,R,h=>by
  simp only [Instr.fill] at h
  split at h
  ·cases h
  ·rename_i off size _
   split at h
   ·cases h
   ·rw [JO qs _ _ h, <- Array.foldl_toList]
    exact fold_size _ off C
theorem JP {len n:Nat} (rr:Array Value) (hR:rr.size=len*n) (w:World):af (σ.ins N w.heap.size rr.size) (N+1) (.s (some (N,0)) len (some len) n) (.slice (some ⟨w.heap.size,0,none⟩) len len):=by
 simp only [af]
 obtain⟨h1,h2⟩:=iZ σ N w.heap.size rr.size
 exact⟨by omega,_,_,rfl,fun _ h=>by injection h with h,fun _=>⟨by rw [h1],Nat.le_refl _,by rw [h2,hR];omega⟩,(by simp),Nat.le_refl _⟩
theorem BS {ty e:TypeId} {len n:Nat} {z:AV} {cs:List AV} {t:List AV} {a:Act} {parts:Array (Nat×Operand)} (r:eF σ g N w) (b:Base w0 σ g w) (hu:P.underlying ty=some (.slice e)) (hs:bu P e=some n) (hz:qW P e=some z)
  (h1:len*n<=16777216) (h2:n≠0) (h3:z.cells.length=n) (ht:ai σ N t a.tmps.toList) (h:wK (fun i=>some (i*n,n)) ((List.replicate len z.cells).flatten) (parts.toList.map fun p=>(p.1,ev t p.2))=some cs):
  vS P w0 σ g N w (do pure (.value (<- Instr.buildSlice ty len (parts.map fun(p:Nat×Operand)=>(p.1,a.eval p.2))))) (.s (some (N,0)) len (some len) n) (.push (.cells (.l cs) false)):=by
 obtain⟨i,v,hi,hzv,rfl⟩:=vB hz
 obtain⟨j,hj,rfl⟩:=vC hs
 rw [hi] at hj
 injection hj with hj;subst hj
 obtain⟨p1,p2⟩:=BQ ht parts
 have su:=ja (σ:=σ) (N:=N) v
 have hvs:v.cells.size=i.size:=by have:=su.length;simpa [h3] using this.symm
 have hrow:ai σ N ((List.replicate len (AV.eX v).cells).flatten) ((Array.range (len*i.size)).map (v.cells[·% v.cells.size]!)).toList:=by
  refine ai.of ?_ ?_
  ·simp [h3]
  ·intro k x y0 hx hy0
   have hk:k < len*i.size:=by
    have:=(List.getElem?_eq_some_iff.1 hx).1
    simpa [h3] using this
   rw [ji _ len k (by rw [h3];exact hk)] at hx
   obtain⟨y,hy,hr⟩:=su.get hx
   have:(k % (AV.eX v).cells.length)=k % v.cells.size:=by rw [h3,hvs]
   rw [this] at hy
   have hy':v.cells[k % v.cells.size]?=some y:=by simpa using hy
   have hb:v.cells[k % v.cells.size]! =y:=by rw [getElem!_def,hy']
   have:y0=y:=by rw [<- hb];simpa [hk] using hy0.symm
   rw [this];exact hr
 obtain⟨R,hR,hr⟩:=qD _ _ _ _ _ p1 p2 hrow h
 have hrun:=run_buildSlice (P:=P) w ty e len (parts.map fun(p:Nat×Operand)=>(p.1,a.eval p.2)) R i v hu hi hzv (by simp;omega)
 have hsz:R.size=len*i.size:=by rw [JO _ _ _ hR];simp
 by_cases hl0:len*i.size=0
 ·have hlen:len=0:=by
   rcases Nat.mul_eq_zero.1 hl0 with h | h
   ·exact h
   ·exact absurd h h2
  subst hlen
  obtain⟨q1,q2⟩:=FM hr
  refine⟨.value (.slice (some ⟨w.heap.size,0,none⟩) 0 0),_,_,?_,zz r b e q1 q2,Quiet.alloc _ _ _ rfl, .inl ⟨_,rfl,JP R hsz w⟩⟩
  have hR':Instr.fill (fun i_1=>some (i_1*i.size,i.size)) #[] (parts.map fun(p:Nat×Operand)=>(p.1,a.eval p.2)).toList=some R:=by simpa [show Array.range 0=#[] from rfl] using hR
  simp only [Array.toList_map] at hR'
  have e0:Array.range 0=#[]:=rfl
  simp [Instr.buildSlice,run_underlying hu,aT hs,e0,hR',newRow]
 ·obtain⟨q1,q2⟩:=FM hr
  exact⟨.value (.slice (some ⟨w.heap.size,0,none⟩) len len),_,_,by simp [hrun hl0 hR],zz r b e q1 q2,Quiet.alloc _ _ _ rfl, .inl ⟨_,rfl,JP R hsz w⟩⟩
theorem vS.to {s s':Sem Next} {v:AV} {e:Ef} (h:vS P w0 σ g N w s v e) (hs:s'.run P w=s.run P w):vS P w0 σ g N w s' v e:=by
 obtain⟨x,w',σ',h1,h2⟩:=h
 exact⟨x,w',σ',by rw [hs];exact h1,h2⟩
theorem omap {α β:Type} {x:Option α} {f:α->β} {y:β} (h:x.map f=some y):∃p,x=some p/\f p=y:=by
 cases x with
 | none=>cases h
 | some p=>exact⟨p,rfl,by simpa using h⟩
theorem lH {t:TypeId} {i:TypeInfo} {z:Value} (hi:P.info? t=some i) (hz:i.zero=some z) (w:World):(zeroValue t).run P w= .ok z w:=by
 simp [zeroValue,typeInfo,hi,hz]
theorem zC {x y:AV} {vs:List Value} (h:ai σ N [x,y] vs):∃X Y,vs=[X,Y]/\af σ N x X/\af σ N y Y:=by
 simp only [ai] at h
 obtain⟨X,q,rfl,h1,Y,q',rfl,h2,rfl⟩:=h
 exact⟨X,Y,rfl,h1,h2⟩
theorem Nl {x:AV} {vs:List Value} (h:ai σ N [x] vs):∃X,vs=[X]/\af σ N x X:=by
 simp only [ai] at h
 obtain⟨X,q,rfl,h1,rfl⟩:=h
 exact⟨X,rfl,h1⟩
theorem Da {s:TypeId} {f n:Nat} {fs:Array Field} {fd:Field} (hu:P.underlying s=some (.struct fs)) (hf:fs[f]?=some fd) (hs:bu P fd.type=some (n+1)) (b o:Nat):(Instr.fieldAt s (.pointer (some ⟨b,o,none⟩)) f).run P w= .ok (.pointer (some ⟨b,o+fd.offset,none⟩)) w:=by
 simp [Instr.fieldAt,run_underlying hu,hf,Instr.sureAddr,fieldPlace,aT hs,Addr.add]
theorem j6 {t e:TypeId} {z n C b o:Nat} {k:IntKind} {i:Int} (hu:P.underlying t=some (.slice e)) (hs:bu P e=some z) (h0:0<=i) (h1:i < n):
  (Instr.indexAt t (.slice (some ⟨b,o,none⟩) n C) (.int k i)).run P w= .ok (.pointer (some ⟨b,o+i.toNat*z,none⟩)) w:=by
 simp [Instr.indexAt,run_underlying hu,asIntOf,h0,h1,aT hs,Addr.add]
theorem wO {t e:TypeId} {z n b o:Nat} {k:IntKind} {i:Int} (hu:P.underlying t=some (.array n e)) (hs:bu P e=some z) (h0:0<=i) (h1:i < n):
  (Instr.indexAt t (.pointer (some ⟨b,o,none⟩)) (.int k i)).run P w= .ok (.pointer (some ⟨b,o+i.toNat*z,none⟩)) w:=by
 simp [Instr.indexAt,run_underlying hu,asIntOf,Instr.sureAddr,h0,h1,aT hs,Addr.add]
theorem JQ {md:Md} {t:List AV} {a:Act} {o:Oper} {c:aS} {v:AV} {e:Ef} (r:eF σ g N w) (b:Base w0 σ g w) (ht:ai σ N t a.tmps.toList) (h:rZ P md t o g N=some (c,v,e)) (hc:c.ok):
  vS P w0 σ g N w (execOp a.eval o) v e:=by
 unfold rZ at h
 split at h
 ·rename_i x ho
  simp only [Option.some.injEq,Prod.mk.injEq] at h
  obtain⟨rfl,rfl,rfl⟩:=h
  refine vS.val r b (x:=a.eval x) ?_ (aN ht x)
  simp [execOp,ho]
 ·rename_i x ho
  simp only [Option.some.injEq,Prod.mk.injEq] at h
  obtain⟨rfl,rfl,rfl⟩:=h
  refine vS.val r b (x:=a.eval x) ?_ (aN ht x)
  simp [execOp,ho]
 ·
  rename_i cc x y ho
  have hcc:=aN (σ:=σ) (N:=N) ht cc
  split at h
  ·rename_i hcv
   simp only [Option.some.injEq,Prod.mk.injEq] at h
   obtain⟨rfl,rfl,rfl⟩:=h
   rw [hcv] at hcc
   simp only [af] at hcc
   refine vS.val r b (x:=a.eval x) ?_ (aN ht x)
   simp [execOp,ho,hcc,asBool]
  ·rename_i hcv
   simp only [Option.some.injEq,Prod.mk.injEq] at h
   obtain⟨rfl,rfl,rfl⟩:=h
   rw [hcv] at hcc
   simp only [af] at hcc
   refine vS.val r b (x:=a.eval y) ?_ (aN ht y)
   simp [execOp,ho,hcc,asBool]
  ·cases h
 ·
  rename_i el ho
  split at h
  ·rename_i z hz
   obtain⟨i,zv,hi,hzv,rfl⟩:=vB hz
   have su:=lH hi hzv w
   have:=FN (P:=P) r b h (ja zv) el
   refine this.to ?_
   simp [execOp,ho,Instr.alloc,su]
  ·cases h
 ·
  rename_i el x ho
  have hat:(ev t x).cells.all AV.atom=true:=by
   unfold anew at h
   split at h
   ·assumption
   ·cases h
  have:=FN (P:=P) r b h (BP (aN ht x) hat) el
  refine this.to ?_
  simp [execOp,ho,Instr.box]
 ·
  rename_i ty parts ho
  split at h
  ·rename_i fs z hu hz
   split at h
   ·rename_i pl hp
    obtain⟨cs,hcs,h⟩:=omap h
    simp only [Prod.mk.injEq] at h
    obtain⟨rfl,rfl,rfl⟩:=h
    refine(Gives.ans r b (Lb hu hz hp ht hcs)).to ?_
    simp [execOp,ho]
   ·cases h
  ·rename_i n el z hu hz
   split at h
   ·rename_i m hs
    obtain⟨cs,hcs,h⟩:=omap h
    simp only [Prod.mk.injEq] at h
    obtain⟨rfl,rfl,rfl⟩:=h
    refine(Gives.ans r b (M9 hu hz hs ht hcs)).to ?_
    simp [execOp,ho]
   ·cases h
  ·cases h
 ·
  rename_i ty len parts ho
  split at h
  ·rename_i el hu
   split at h
   ·rename_i n z hs hz
    split at h
    ·rename_i hh
     obtain⟨h1,h2,h3,_⟩:=hh
     obtain⟨cs,hcs,h⟩:=omap h
     simp only [Prod.mk.injEq] at h
     obtain⟨rfl,rfl,rfl⟩:=h
     refine(BS r b hu hs hz h1 h2 h3 ht hcs).to ?_
     simp [execOp,ho]
    ·cases h
   ·cases h
  ·cases h
 ·
  rename_i ty x ho
  obtain⟨h1,rfl⟩:=sM h
  refine(Gives.ans r b (M6 r h1 hc (aN ht x))).to ?_
  simp [execOp,ho]
 ·
  rename_i ty x y ho
  obtain⟨p,hp,h⟩:=omap h
  simp only [Prod.mk.injEq] at h
  obtain⟨rfl,rfl,rfl⟩:=h
  refine(La r b (by rw [hp]) hc (aN ht x) (aN ht y)).to ?_
  simp [execOp,ho]
 ·
  rename_i x ho
  split at h
  ·rename_i q hq
   simp only [Option.some.injEq,Prod.mk.injEq] at h
   obtain⟨rfl,rfl,rfl⟩:=h
   have hx:=aN (σ:=σ) (N:=N) ht x
   rw [hq] at hx
   refine vS.val r b (x:=a.eval x) ?_ hx
   obtain⟨d,o⟩:=q
   simp only [af] at hx
   simp [execOp,ho,hx.2]
  ·cases h
 ·
  rename_i op ty x y lz ho
  obtain⟨h1,rfl⟩:=sM h
  have hx:=aN (σ:=σ) (N:=N) ht x
  have hg:=PI (P:=P) (w:=w) (σ:=σ) (N:=N) h1 hx (X:=a.eval x) (Y:=a.eval y) x y
  refine(Gives.ans r b (PL r h1 hc hx (aN ht y))).to ?_
  simp [execOp,ho,hg]
 ·
  rename_i op ty x ho
  obtain⟨h1,rfl⟩:=sM h
  refine(Gives.ans r b (Sr h1 hc (aN ht x))).to ?_
  simp [execOp,ho]
 ·
  rename_i src dst x ho
  obtain⟨h1,rfl⟩:=sM h
  refine(Gives.ans r b (MZ h1 hc (aN ht x))).to ?_
  simp [execOp,ho]
 ·
  rename_i fn fs cs ho
  split at h
  ·rename_i f
   simp only [Option.some.injEq,Prod.mk.injEq] at h
   obtain⟨rfl,rfl,rfl⟩:=h
   refine vS.val r b (x:= .func (.func f) (fs.map a.eval) (cs.map a.eval)) (by simp [execOp,ho,Instr.makeFunc]) ?_
   simp only [af,IV,aZ.fn]
   exact⟨trivial,_,_,rfl,by simpa using nu ht fs.toList,by simpa using nu ht cs.toList⟩
  ·cases h
 ·
  rename_i ty ho
  split at h
  ·rename_i kt et hu
   simp only [Option.some.injEq,Prod.mk.injEq] at h
   obtain⟨rfl,rfl,rfl⟩:=h
   refine⟨.value (.map (some w.heap.size)),_,_,by simp [execOp,ho,run_makeMap],Post.push r b r.fresh _ (.map #[] 0) 0 ⟨_,_,rfl,by simp [kg]⟩,Quiet.alloc _ _ _ rfl, .inl ⟨_,rfl,?_⟩⟩
   simp only [af,Ef.TL]
   exact⟨by omega,by rw [(iZ _ _ _ _).1]⟩
  ·cases h
 ·
  rename_i ty l cp ho
  refine(Nc r b h hc (aN ht l) (aN ht cp)).to ?_
  simp [execOp,ho]
 ·
  rename_i ty x lo hi ho
  obtain⟨h1,rfl⟩:=sM h
  refine(Gives.ans r b (Lc h1 hc (aN ht x) (Nk ht lo) (Nk ht hi))).to ?_
  simp [execOp,ho]
 ·
  rename_i s x f ho
  split at h
  ·rename_i fs d o hu hx
   split at h
   ·rename_i fd hf
    split at h
    ·rename_i n hs
     simp only [Option.some.injEq,Prod.mk.injEq] at h
     obtain⟨rfl,rfl,rfl⟩:=h
     have oq:=aN (σ:=σ) (N:=N) ht x
     rw [hx] at oq
     simp only [af] at oq
     refine vS.val r b (x:= .pointer (some ⟨σ.at_ d,o+fd.offset,none⟩)) ?_ ?_
     ·simp [execOp,ho,oq.2,Da hu hf hs]
     ·simp only [af];exact⟨oq.1,by trivial⟩
    ·cases h
   ·cases h
  ·cases h
 ·
  rename_i s x f ho
  split at h
  ·rename_i fs cs hu hx
   split at h
   ·rename_i fd hf
    obtain⟨q,hq,h⟩:=omap h
    simp only [Prod.mk.injEq] at h
    obtain⟨rfl,rfl,rfl⟩:=h
    have oq:=aN (σ:=σ) (N:=N) ht x
    rw [hx] at oq
    simp only [af] at oq
    obtain⟨vs,hv,hr⟩:=oq
    refine(Gives.ans r b (Na hq hr)).to ?_
    simp [execOp,ho,Instr.field,run_underlying hu,hf,hv,asAgg]
   ·cases h
  ·cases h
 ·
  rename_i ty x ix ho
  have oq:=aN (σ:=σ) (N:=N) ht x
  have hir:=aN (σ:=σ) (N:=N) ht ix
  split at h
  ·rename_i el d o n cp es k i hu hx hi
   rw [hx] at oq
   rw [hi] at hir
   simp only [af] at oq hir
   obtain⟨hd,A,C,hv,_,hA,_⟩:=oq
   split at h
   ·rename_i hs
    simp only [Option.some.injEq,Prod.mk.injEq] at h
    obtain⟨rfl,rfl,rfl⟩:=h
    have c1:=hc (0,i) (by simp)
    have c2:=hc (i+1,n) (by simp)
    simp only at c1 c2
    obtain⟨rfl,_,_⟩:=hA (by omega)
    refine vS.val r b (x:= .pointer (some ⟨σ.at_ d,o+i.toNat*es,none⟩)) ?_ ?_
    ·have c3:i < (n:Int):=by omega
     simp [execOp,ho,hv,hir,j6 hu hs c1 c3]
    ·simp only [af];exact⟨hd,by trivial⟩
   ·cases h
  ·rename_i n el d o k i hu hx hi
   rw [hx] at oq
   rw [hi] at hir
   simp only [af] at oq hir
   split at h
   ·rename_i z hs
    simp only [Option.some.injEq,Prod.mk.injEq] at h
    obtain⟨rfl,rfl,rfl⟩:=h
    have c1:=hc (0,i) (by simp)
    have c2:=hc (i+1,n) (by simp)
    simp only at c1 c2
    refine vS.val r b (x:= .pointer (some ⟨σ.at_ d,o+i.toNat*z,none⟩)) ?_ ?_
    ·have c3:i < (n:Int):=by omega
     simp [execOp,ho,oq.2,hir,wO hu hs c1 c3]
    ·simp only [af];exact⟨oq.1,by trivial⟩
   ·cases h
  ·cases h
 ·
  rename_i ty m k ok ho
  obtain⟨q,hq,h⟩:=omap h
  simp only [Prod.mk.injEq] at h
  obtain⟨rfl,rfl,rfl⟩:=h
  refine(Gives.ans r b (IY r hq (aN ht m) (aN ht k))).to ?_
  simp [execOp,ho]
 ·
  rename_i ty m k x ho
  obtain⟨q,hq,h⟩:=omap h
  simp only [Prod.mk.injEq] at h
  obtain⟨rfl,rfl,rfl⟩:=h
  obtain⟨⟨d,o',rfl⟩,w',hrun,hp⟩:=wN r b hq (aN ht m) (aN ht k) (aN ht x)
  exact⟨.skip,w',σ,by simp [execOp,ho,hrun],hp,trivial, .inr ⟨rfl,rfl⟩⟩
 ·
  rename_i ty m k x ho
  obtain⟨q,hq,h⟩:=omap h
  simp only [Prod.mk.injEq] at h
  obtain⟨rfl,rfl,rfl⟩:=h
  obtain⟨⟨d,o',rfl⟩,w',hrun,hp⟩:=wN r b hq (aN ht m) (aN ht k) (aN ht x)
  exact⟨.skip,w',σ,by simp [execOp,ho,hrun],hp,trivial, .inr ⟨rfl,rfl⟩⟩
 ·
  rename_i x i ho
  have oq:=aN (σ:=σ) (N:=N) ht x
  split at h
  ·rename_i vs hx
   obtain⟨q,hq,h⟩:=omap h
   simp only [Prod.mk.injEq] at h
   obtain⟨rfl,rfl,rfl⟩:=h
   rw [hx] at oq
   simp only [af] at oq
   obtain⟨us,hv,hr⟩:=oq
   obtain⟨u,hu,WI⟩:=hr.get hq
   have hu':us[i]?=some u:=by simpa using hu
   refine vS.val r b (x:=u) ?_ WI
   simp [execOp,ho,Instr.extract,hv,hu']
  ·cases h
 ·
  rename_i bi args argTypes ho
  obtain⟨cs,hres⟩:∃cs,(execOp a.eval o).run P w=(builtin bi argTypes o.type cs (args.map a.eval)).run P w:=⟨_,by simp only [execOp,ho,resolve];simp only [Sem.run_bind,Sem.run_pure,Result.andThen_ok,invoke];rfl⟩
  refine vS.to ?_ hres
  have hargs:=nu (σ:=σ) (N:=N) ht args.toList
  have harr:args.map a.eval=(args.toList.map a.eval).toArray:=Array.toList_inj.1 (by simp)
  rw [harr]
  generalize args.toList.map a.eval=vs at hargs
  split at h
  ·
   rename_i s x ty tx ea et
   rw [ea] at hargs
   obtain⟨S,X,rfl,hs,hx⟩:=zC hargs
   split at h
   ·rename_i te hk
    refine(IX (ty:=o.type) hk r b h hc hs hx).to ?_
    have:argTypes=#[ty,tx]:=Array.toList_inj.1 et
    subst this
    simp [builtin]
   ·rename_i hk
    refine(FP (ty:=o.type) hk r b h hs hx).to ?_
    have:argTypes=#[ty,tx]:=Array.toList_inj.1 et
    subst this
    simp [builtin]
   ·cases h
  ·rename_i d s ty tx ea et
   rw [ea] at hargs
   obtain⟨D,S,rfl,hd,hs⟩:=zC hargs
   refine(Nh (sT:=tx) (ty:=o.type) r b h hc hd hs).to ?_
   have:argTypes=#[ty,tx]:=Array.toList_inj.1 et
   subst this
   simp [builtin]
  ·rename_i A n c' e' ty ea et
   rw [ea] at hargs
   obtain⟨S,rfl,hs⟩:=Nl hargs
   split at h
   ·rename_i el hu
    simp only [Option.some.injEq,Prod.mk.injEq] at h
    obtain⟨rfl,rfl,rfl⟩:=h
    obtain⟨B,C,rfl,_⟩:=zA hs
    refine vS.val r b (x:= .int .i64 (n:Int)) ?_ (oI _ _)
    have:argTypes=#[ty]:=Array.toList_inj.1 et
    subst this
    simp [builtin,Builtin.len_,run_underlying hu,goInt]
   ·cases h
  ·rename_i n c' e' ty ea et
   rw [ea] at hargs
   obtain⟨S,rfl,hs⟩:=Nl hargs
   split at h
   ·rename_i el hu
    simp only [Option.some.injEq,Prod.mk.injEq] at h
    obtain⟨rfl,rfl,rfl⟩:=h
    simp only [af] at hs
    obtain⟨_,rfl⟩:=hs
    refine vS.val r b (x:= .int .i64 0) ?_ (oI _ _)
    have:argTypes=#[ty]:=Array.toList_inj.1 et
    subst this
    simp [builtin,Builtin.cap_,run_underlying hu,goInt]
   ·cases h
  ·rename_i x y ea
   rw [ea] at hargs
   obtain⟨X,Y,rfl,hx,hy⟩:=zC hargs
   obtain⟨q,hq,h⟩:=omap h
   simp only [Prod.mk.injEq] at h
   obtain⟨rfl,rfl,rfl⟩:=h
   refine(Gives.ans r b (vE hq hx hy)).to ?_
   simp [builtin,Builtin.max_,mm]
  ·rename_i x y ea
   rw [ea] at hargs
   obtain⟨X,Y,rfl,hx,hy⟩:=zC hargs
   obtain⟨q,hq,h⟩:=omap h
   simp only [Prod.mk.injEq] at h
   obtain⟨rfl,rfl,rfl⟩:=h
   refine(Gives.ans r b (vE hq hx hy)).to ?_
   simp [builtin,Builtin.min_,mm]
  ·cases h
 ·cases h
end
end Go.AM
