/- The places at which a function uses values: a closure that writes each of them, over trees. No condition. -/
import Derived.Test.YtnomiclfiijniaaGreatQS31
section
namespace Go.Proofs.YtnomiclfiijniaaGreat
set_option maxRecDepth 100000
set_option linter.unusedSimpArgs false
set_option linter.unusedVariables false
abbrev zBlock:List V:=[.d (.int .i64 0),.d .nilsl,.d (.int .i64 0),.d (.int .i64 0),.d .nilsl]
end Go.Proofs.YtnomiclfiijniaaGreat
end

section
namespace Go.Proofs.YtnomiclfiijniaaGreat
set_option maxRecDepth 100000
set_option linter.unusedSimpArgs false
set_option linter.unusedVariables false
def mI (x k:Int):Int × Int:=(k,k + 1)
theorem era_AS_ints (s:AS Int):Tr.era s=s.l:=era_ints s.l
end Go.Proofs.YtnomiclfiijniaaGreat
end

section
namespace Go.Proofs.YtnomiclfiijniaaGreat
set_option maxRecDepth 100000
set_option linter.unusedSimpArgs false
set_option linter.unusedVariables false
def mpI (g:Int→Int) (x:Inst):Inst:=⟨x.op_,x.n_,x.args_.map g⟩
def mpJ (g:Int→Int) (x:Jump):Jump:=⟨x.to_,x.args_.map g⟩
def mpB (g:Int→Int) (b:Block):Block:=⟨b.params_,b.insts_.map (mpI g),b.end_,if b.end_=2 then b.value_ else g b.value_,b.jumps_.map (mpJ g)⟩
def mpF (g:Int→Int) (F:Func):Func:=⟨F.params_,F.blocks_.map (mpB g)⟩
def allU (b:Block):List Int:=b.insts_.flatMap (·.args_)++usedL b
def nk {β:Type} (h:β→β) (x:β) (k:Int):β × Int:=(h x,k)
theorem mkL_nk {β:Type} (h:β→β):∀ (l:List β) (k:Int),mkL (nk h) l k=(l.map h,k)
  | [],k=>rfl
  | x :: l,k=>by simp only [mkL,nk,mkL_nk h l,List.map_cons]
structure Wr (fn:Nat) (caps:List V) (E:Heap→Prop) (K:List Nat) (U:Int→Prop) (g:Int→Int):Prop where
  call:∀ H id e es i j x c,E H→H[id]? = some (.row e es)→es[i]? = some c→c[j]? = some (.d (.int .i64 x))→c.length=e→U x→id ∉ K →
    CallsD Tryz.prog fn (.ptr id e i j :: caps) H fun r H'=>r=.tup []∧H'=H.set id (.row e (es.set i (c.set j (.d (.int .i64 (g x))))))
  keep:∀ H H',(∀ k∈K,H'[k]? = H[k]?)→E H→E H'
section
variable {fn:Nat} {caps:List V} {E:Heap→Prop} {K:List Nat} {U:Int→Prop} {g:Int→Int}
theorem Wr.only (w:Wr fn caps E K U g) {H H':Heap} {S:List Nat} (ho:Only S H H') (hE:E H) (hK:∀ k∈K,k ∉ S∧k < H.length):E H' :=
  w.keep H H' (fun k hk=>ho.at_ k (hK k hk).2 (hK k hk).1) hE
def valRow (b:ABlock) (v:Int):List V:=[.d (.int .i64 b.params_),b.insts_.v,.d (.int .i64 b.end_),.d (.int .i64 v),b.jumps_.v]
def valG (g:Int→Int) (b:ABlock):Int:=if b.end_=2 then b.value_ else g b.value_
theorem usedJ (w : Wr fn caps E K U g) {b : ABlock} {v : Int} {H0 : Heap} {idb i0 : Nat} {rows : List (List V)} (hrow : H0[idb]? = some (.row 5 rows)) (hi : rows[i0]? = some (valRow b v)) (hE : E H0) (hO : Own H0 b.jumps_)
    (hn:idb ∉ ids b.jumps_) (hK:∀ k∈K,k ∉ ids b.jumps_∧k < H0.length) (hU:∀ x∈(Tr.era b.jumps_).flatMap (·.args_),U x) (hl:b.jumps_.l.length≤1000) (hla:∀ a∈b.jumps_.l,a.args_.l.length≤1000)
    {n0:Nat} {c:Code} (hcd:(loopsIn (Tryz.f134.body.getD .skip))[0]? = some c) {Q:Exit→St→Prop} {s:St}
    (hs:IntoH s [(0,.ptr idb 5 i0 0),(1,.clo fn caps),(20,.d (.int .i64 b.jumps_.l.length)),(21,.d (.int .i64 0))] H0)
    (hq:∀ l' H' js,Made H0 H' b.jumps_ js→Tr.era js=(Tr.era b.jumps_).map (mpJ g)→Q (.exit 0) ⟨mk l',H'⟩):W Tryz.prog 50 n0 c Q s:=by
  cases hcd
  have hrlt:i0 < rows.length:=(List.getElem?_eq_some_iff.1 hi).1
  refine W_loopH (α:=List AJump × List AJump × Heap) (fun a=>[(0,.ptr idb 5 i0 0),(1,.clo fn caps),(20,.d (.int .i64 b.jumps_.l.length)),(21,.d (.int .i64 a.1.length))]) (fun a=>a.2.2)
    (fun a=>Mk (nk (mpJ g)) H0 b.jumps_ 0 a.1 a.2.1 0 a.2.2) (fun a=>b.jumps_.l.length - a.1.length) ([],b.jumps_.l,H0) hs (Mk.nil hO) ?_
  rintro ⟨m,l,H1⟩ hm
  dsimp only at hm
  have hrow1:H1[idb]? = some (.row 5 rows):=(hm.only.at_ idb (List.getElem?_eq_some_iff.1 hrow).1 hn).trans hrow
  cases l with
  | nil =>
    have hge:=hm.ge
    obtain ⟨q1,q2⟩:=hm.done hge
    rw [mkL_nk] at q2
    have q3:Tr.era (⟨b.jumps_.v,m⟩:AS AJump)=(Tr.era b.jumps_).map (mpJ g):=congrArg Prod.fst q2
    refine W_run mixed ⟨[],[],[],50,n0,[0,1,4,5,10,20,21,22,32,33,34],[10,22,34]⟩ (fun _=>[]) (by kernel_rfl) ?_
    simp only [stripX,stripOps,pickOps]
    simp [-V.flat,-V.one,one_int,one_bool,one_str,one_nilp,one_rp,one_nilsl,one_ro,one_cl,one_nilf,one_nili,one_ifc,one_ptr,one_sl,one_clo,flat_d,flat_ptr,flat_sl,flat_clo,flat_agg,Nat.not_lt.2 hge]
    exact hq _ _ _ q1 q3
  | cons a l =>
    have hlt:=hm.lt
    obtain ⟨r1,r2,r3⟩:=hm.row
    have hsub:=hm.sub
    have hmem:a∈b.jumps_.l:=List.mem_of_mem_drop (by rw [← hm.left];exact List.mem_cons_self)
    have hv:b.jumps_.v=.sl b.jumps_.id 2 0 b.jumps_.l.length:=(hO.row (by omega)).1
    have haO:Own H1 a.args_:=AJump.own_args_ hm.wk.elem
    have hal:=hla a hmem
    have hv2:valRow b v=[.d (.int .i64 b.params_),b.insts_.v,.d (.int .i64 b.end_),.d (.int .i64 v),.sl b.jumps_.id 2 0 b.jumps_.l.length]:=by unfold valRow;rw [hv]
    have hget:rows[i0]?.getD []=[.d (.int .i64 b.params_),b.insts_.v,.d (.int .i64 b.end_),.d (.int .i64 v),.sl b.jumps_.id 2 0 b.jumps_.l.length]:=by rw [hi,hv2];rfl
    have hget2:∀ h:i0 < rows.length,rows[i0]=[.d (.int .i64 b.params_),b.insts_.v,.d (.int .i64 b.end_),.d (.int .i64 v),.sl b.jumps_.id 2 0 b.jumps_.l.length]:=fun h=>by rw [← hget,List.getElem?_eq_getElem h];rfl
    have hidb:idb ∉ ids a.args_:=fun q=>hn (hsub idb q)
    have hjn:b.jumps_.id ∉ ids a.args_:=fun q=>(hm.own.row (by simp;omega)).2.2.1 (List.mem_flatMap.2 ⟨a,by simp,q⟩)
    have hE1:E H1:=w.only hm.only hE hK
    have hUa:∀ x∈a.args_.l,U x:=fun x hx=>hU x (List.mem_flatMap.2 ⟨Tr.era a,List.mem_map.2 ⟨a,hmem,rfl⟩,by rw [show (Tr.era a).args_=Tr.era a.args_ from rfl,era_AS_ints];exact hx⟩)
    have hj1000:b.jumps_.l.length≤1000:=hl
    have fin:∀ H' (s5:AS Int),Made H1 H' a.args_ s5→s5.l=a.args_.l.map g→Mk (nk (mpJ g)) H0 b.jumps_ 0 (m++[(⟨a.to_,s5⟩:AJump)]) l 0 H':=fun H' s5 hmd he =>
      hm.close (hm.wk.call (AJump.made_args_ hmd)) (by
        show Jump.mk a.to_ (Tr.era s5)=Jump.mk a.to_ ((Tr.era a.args_).map g)
        rw [era_AS_ints,era_AS_ints,he])
    have wi:IntKind.i64.wrap ((m.length:Int) + 1)=((m.length + 1:Nat):Int):=by rw [wrap_id] <;> omega
    rcases haO.ok.1 with hv3 | ⟨h0,hv3⟩
    · have hv3:a.args_.v=.sl a.args_.id 1 0 a.args_.l.length:=hv3
      refine W_run mixed ⟨[],[],[],50,n0,[0,1,4,5,10,20,21,22,32,33,34],[10,22,34]⟩ (fun _=>[]) (by kernel_rfl) ?_
      simp only [stripX,stripOps,pickOps]
      simp [-V.flat,-V.one,one_int,one_bool,one_str,one_nilp,one_rp,one_nilsl,one_ro,one_cl,one_nilf,one_nili,one_ifc,one_ptr,one_sl,one_clo,flat_d,flat_ptr,flat_sl,flat_clo,flat_agg,hlt,hrow1,hrlt,hget2,r1,rowL_len,rowL_get,rowL_at,hv3]
      refine W_loopH (α:=List Int × List Int × Heap) (fun q=>[(0,.ptr idb 5 i0 0),(1,.clo fn caps),(4,.d (.int .i64 m.length)),(20,.d (.int .i64 b.jumps_.l.length)),(21,.d (.int .i64 m.length)),(32,.d (.int .i64 a.args_.l.length)),(33,.d (.int .i64 q.1.length))]) (fun q=>q.2.2)
        (fun q=>Mk (nk g) H1 a.args_ 0 q.1 q.2.1 0 q.2.2) (fun q=>a.args_.l.length - q.1.length) ([],a.args_.l,H1) ?_ (Mk.nil haO) ?_
      · simp
      rintro ⟨m2,l2,H2⟩ hm2
      dsimp only at hm2
      have hrow2:H2[idb]? = some (.row 5 rows):=(hm2.only.at_ idb (List.getElem?_eq_some_iff.1 hrow1).1 hidb).trans hrow1
      have hjr2:H2[b.jumps_.id]? = some (.row 2 (rowL m a l)):=(hm2.only.at_ _ r2 hjn).trans r1
      cases l2 with
      | nil =>
        have hge:=hm2.ge
        obtain ⟨q1,q2⟩:=hm2.done hge
        rw [mkL_nk] at q2
        have q3:m2.map Tr.era=(Tr.era a.args_).map g:=congrArg Prod.fst q2
        rw [era_ints,era_AS_ints] at q3
        have hf:=fin H2 ⟨a.args_.v,m2⟩ q1 q3
        refine W_run mixed ⟨[],[],[],50,n0,[0,1,4,5,10,20,21,22,32,33,34],[10,22,34]⟩ (fun _=>[]) (by kernel_rfl) ?_
        simp only [stripX,stripOps,pickOps]
        simp [-V.flat,-V.one,one_int,one_bool,one_str,one_nilp,one_rp,one_nilsl,one_ro,one_cl,one_nilf,one_nili,one_ifc,one_ptr,one_sl,one_clo,flat_d,flat_ptr,flat_sl,flat_clo,flat_agg,Nat.not_lt.2 hge]
        exact ⟨_,l,_,hf,by simp;omega,rfl,by rw [wi];simp⟩
      | cons x l2 =>
        have hlt2:=hm2.lt
        obtain ⟨t1,t2,t3⟩:=hm2.row
        have hx:x∈a.args_.l:=List.mem_of_mem_drop (by rw [← hm2.left];exact List.mem_cons_self)
        have hE2:E H2:=w.only hm2.only hE1 fun k hk=>⟨fun q=>(hK k hk).1 (hsub k q),by have:=(hK k hk).2;have:=hm.len;omega⟩
        have hsetx:(rowL m2 x l2).set m2.length [.d (.int .i64 (g x))]=rowL m2 (g x) l2:=rowL_set (g x)
        refine W_run mixed ⟨[],[],[],50,n0,[0,1,4,5,10,20,21,22,32,33,34],[10,22,34]⟩ (fun _=>[]) (by kernel_rfl) ?_
        simp only [stripX,stripOps,pickOps]
        simp [-V.flat,-V.one,one_int,one_bool,one_str,one_nilp,one_rp,one_nilsl,one_ro,one_cl,one_nilf,one_nili,one_ifc,one_ptr,one_sl,one_clo,flat_d,flat_ptr,flat_sl,flat_clo,flat_agg,hlt2,hlt,hrow2,hrlt,hget2,hjr2,t1,rowL_len,rowL_get,rowL_at,hv3]
        refine (w.call H2 a.args_.id 1 (rowL m2 x l2) m2.length 0 x [.d (.int .i64 x)] hE2 t1 rowL_get rfl rfl (hUa x hx) fun q=>(hK _ q).1 (hsub _ t3)).mono ?_
        rintro r H' ⟨rfl,rfl⟩
        rw [show ([V.d (.int .i64 x)].set 0 (.d (.int .i64 (g x))))=[.d (.int .i64 (g x))] from rfl,hsetx]
        have hc:=hm2.close (hm2.wk.write (g x) trivial rfl) rfl
        simp [-V.flat,-V.one,one_int,one_bool,one_str,one_nilp,one_rp,one_nilsl,one_ro,one_cl,one_nilf,one_nili,one_ifc,one_ptr,one_sl,one_clo,flat_d,flat_ptr,flat_sl,flat_clo,flat_agg]
        exact ⟨_,l2,_,hc,by simp;omega,rfl,by rw [wrap_id] <;> (try simp) <;> omega⟩
    · have he:a.args_.l=[]:=List.length_eq_zero_iff.1 h0
      have hf:=fin H1 a.args_ (Made.refl haO) (by rw [he];rfl)
      rcases hv3 with hv3 | ⟨f,hv3⟩
      all_goals
        refine W_run mixed ⟨[],[],[],50,n0,[0,1,4,5,10,20,21,22,32,33,34],[10,22,34]⟩ (fun _=>[]) (by kernel_rfl) ?_
        simp only [stripX,stripOps,pickOps]
        simp [-V.flat,-V.one,one_int,one_bool,one_str,one_nilp,one_rp,one_nilsl,one_ro,one_cl,one_nilf,one_nili,one_ifc,one_ptr,one_sl,one_clo,flat_d,flat_ptr,flat_sl,flat_clo,flat_agg,hlt,hrow1,hrlt,hget2,r1,rowL_len,rowL_get,rowL_at,hv3]
        refine W_loopH (α:=Unit) (fun q=>[(0,.ptr idb 5 i0 0),(1,.clo fn caps),(4,.d (.int .i64 m.length)),(20,.d (.int .i64 b.jumps_.l.length)),(21,.d (.int .i64 m.length)),(32,.d (.int .i64 0)),(33,.d (.int .i64 0))]) (fun q=>H1)
          (fun q=>True) (fun q=>0) () ?_ trivial ?_
        · simp
        rintro ⟨⟩ _
        refine W_run mixed ⟨[],[],[],50,n0,[0,1,4,5,10,20,21,22,32,33,34],[10,22,34]⟩ (fun _=>[]) (by kernel_rfl) ?_
        simp only [stripX,stripOps,pickOps]
        simp [-V.flat,-V.one,one_int,one_bool,one_str,one_nilp,one_rp,one_nilsl,one_ro,one_cl,one_nilf,one_nili,one_ifc,one_ptr,one_sl,one_clo,flat_d,flat_ptr,flat_sl,flat_clo,flat_agg]
        exact ⟨_,l,_,hf,by simp;omega,rfl,by rw [wi];simp⟩
theorem usedT (w : Wr fn caps E K U g) {b : ABlock} {H : Heap} {idb i0 : Nat} {rows : List (List V)} (hrow : H[idb]? = some (.row 5 rows)) (hi : rows[i0]? = some (Tr.cells b)) (hE : E H) (hO : Own H b)
    (hn:idb ∉ ids b) (hK:∀ k∈K,k ≠ idb∧k ∉ ids b∧k < H.length) (hU:∀ x∈usedL (Tr.era b),U x) (hl:b.jumps_.l.length≤1000) (hla:∀ a∈b.jumps_.l,a.args_.l.length≤1000) :
    CallsD Tryz.prog 134 [.ptr idb 5 i0 0,.clo fn caps] H fun r H'=>r=.tup []∧∃ js:AS AJump,Made (H.set idb (.row 5 (rows.set i0 (valRow b (valG g b))))) H' b.jumps_ js∧Tr.era js=(Tr.era b.jumps_).map (mpJ g):=by
  have hrlt:i0 < rows.length:=(List.getElem?_eq_some_iff.1 hi).1
  have hget2:∀ h:i0 < rows.length,rows[i0]=[.d (.int .i64 b.params_),b.insts_.v,.d (.int .i64 b.end_),.d (.int .i64 b.value_),b.jumps_.v]:=fun h=>by
    have:=List.getElem?_eq_getElem h
    rw [hi] at this
    exact (Option.some.inj this).symm
  have hid:idb < H.length:=(List.getElem?_eq_some_iff.1 hrow).1
  have hnj:idb ∉ ids b.jumps_:=fun q=>hn (by rw [ids_ABlock];exact List.mem_append_right _ q)
  have hKj:∀ k∈K,k ∉ ids b.jumps_∧k < H.length:=fun k hk=>⟨fun q=>(hK k hk).2.1 (by rw [ids_ABlock];exact List.mem_append_right _ q),(hK k hk).2.2⟩
  have hOj:=ABlock.own_jumps_ hO
  have hUj:∀ x∈(Tr.era b.jumps_).flatMap (·.args_),U x:=fun x hx=>hU x (List.mem_append_right _ hx)
  have set_self:∀ {γ:Type} (l:List γ) (i:Nat) (x:γ),l[i]? = some x→l.set i x=l:=fun l i x h=>by
    refine List.ext_getElem? fun j=>?_
    rw [List.getElem?_set]
    split
    · rename_i e;subst e;rw [if_pos (List.getElem?_eq_some_iff.1 h).1,h]
    · rfl
  by_cases hend:b.end_=2
  · have hg:valG g b=b.value_:=by simp [valG,hend]
    have hv0:valRow b (valG g b)=Tr.cells b:=by rw [hg];rfl
    rw [hv0,set_self rows i0 _ hi,set_self H idb _ hrow]
    have e2:V.d (.int .i64 b.end_)=.d (.int .i64 2):=by rw [hend]
    rcases hOj.ok.1 with hv | ⟨h0,hv⟩
    · have hv:b.jumps_.v=.sl b.jumps_.id 2 0 b.jumps_.l.length:=hv
      refine calls_of Tryz.func134 en_134 rfl (of_decide_eq_true rfl) (W_run mixed ⟨[],[],[],50,H.length,[0,1,4,5,10,20,21,22,32,33,34],[10,22,34]⟩ (fun _=>[]) (by kernel_rfl) ?_)
      simp only [Tryz.f134,stripX,stripOps,pickOps]
      simp [-V.flat,-V.one,one_int,one_bool,one_str,one_nilp,one_rp,one_nilsl,one_ro,one_cl,one_nilf,one_nili,one_ifc,one_ptr,one_sl,one_clo,flat_d,flat_ptr,flat_sl,flat_clo,flat_agg,hend,hrow,hrlt,hget2,hv]
      refine usedJ w (v:=b.value_) hrow hi hE hOj hnj hKj hUj hl hla rfl ?_ fun l' H' js hm he=>?_
      · simp
      · simp [-V.flat,-V.one,one_int,one_bool,one_str,one_nilp,one_rp,one_nilsl,one_ro,one_cl,one_nilf,one_nili,one_ifc,one_ptr,one_sl,one_clo,flat_d,flat_ptr,flat_sl,flat_clo,flat_agg,retQ]
        exact ⟨_,_,Fin.same (Nat.le_of_eq hm.len.symm),rfl,js,hm,he⟩
    · have hem:b.jumps_.l=[]:=List.length_eq_zero_iff.1 h0
      have he:Tr.era b.jumps_=(Tr.era b.jumps_).map (mpJ g):=by rw [show Tr.era b.jumps_=[] by show b.jumps_.l.map Tr.era=[];rw [hem];rfl];rfl
      rcases hv with hv | ⟨f,hv⟩
      all_goals
        refine calls_of Tryz.func134 en_134 rfl (of_decide_eq_true rfl) (W_run mixed ⟨[],[],[],50,H.length,[0,1,4,5,10,20,21,22,32,33,34],[10,22,34]⟩ (fun _=>[]) (by kernel_rfl) ?_)
        simp only [Tryz.f134,stripX,stripOps,pickOps]
        simp [-V.flat,-V.one,one_int,one_bool,one_str,one_nilp,one_rp,one_nilsl,one_ro,one_cl,one_nilf,one_nili,one_ifc,one_ptr,one_sl,one_clo,flat_d,flat_ptr,flat_sl,flat_clo,flat_agg,hend,hrow,hrlt,hget2,hv]
        refine W_loopH (α:=Unit) (fun a=>[(0,.ptr idb 5 i0 0),(1,.clo fn caps),(20,.d (.int .i64 0)),(21,.d (.int .i64 0))]) (fun a=>H) (fun a=>True) (fun a=>0) () ?_ trivial ?_
        · simp
        rintro ⟨⟩ _
        refine W_run mixed ⟨[],[],[],50,H.length,[0,1,4,5,10,20,21,22,32,33,34],[10,22,34]⟩ (fun _=>[]) (by kernel_rfl) ?_
        simp only [stripX,stripOps,pickOps]
        simp [-V.flat,-V.one,one_int,one_bool,one_str,one_nilp,one_rp,one_nilsl,one_ro,one_cl,one_nilf,one_nili,one_ifc,one_ptr,one_sl,one_clo,flat_d,flat_ptr,flat_sl,flat_clo,flat_agg,retQ]
        exact ⟨_,_,Fin.same (Nat.le_refl _),rfl,b.jumps_,Made.refl hOj,he⟩
  · have hg:valG g b=g b.value_:=by simp [valG,hend]
    rw [hg]
    have hUv:U b.value_:=hU _ (by
      unfold usedL
      rw [show (Tr.era b).end_=b.end_ from rfl,if_neg hend]
      exact List.mem_append_left _ List.mem_cons_self)
    have hKi:idb ∉ K:=fun q=>(hK _ q).1 rfl
    have hcl:=w.call H idb 5 rows i0 3 b.value_ (Tr.cells b) hE hrow hi rfl rfl hUv hKi
    generalize hH1:H.set idb (.row 5 (rows.set i0 (valRow b (g b.value_))))=H1
    have hlen1:H1.length=H.length:=by rw [← hH1,List.length_set]
    have hrow1:H1[idb]? = some (.row 5 (rows.set i0 (valRow b (g b.value_)))):=by rw [← hH1];exact List.getElem?_set_self hid
    have hi1:(rows.set i0 (valRow b (g b.value_)))[i0]? = some (valRow b (g b.value_)):=List.getElem?_set_self hrlt
    have hrlt1:i0 < (rows.set i0 (valRow b (g b.value_))).length:=by rw [List.length_set];exact hrlt
    have hget1:∀ h:i0 < (rows.set i0 (valRow b (g b.value_))).length,(rows.set i0 (valRow b (g b.value_)))[i0]=[.d (.int .i64 b.params_),b.insts_.v,.d (.int .i64 b.end_),.d (.int .i64 (g b.value_)),b.jumps_.v]:=fun h=>by
      have:=List.getElem?_eq_getElem h
      rw [hi1] at this
      exact (Option.some.inj this).symm
    have ho1:Only [idb] H H1:=by rw [← hH1];exact Only.set
    have hE1:E H1:=w.only ho1 hE fun k hk=>⟨fun q=>(hK k hk).1 (List.mem_singleton.1 q),(hK k hk).2.2⟩
    have hOj1:Own H1 b.jumps_:=hOj.frame ho1 fun j hj q=>by rw [List.mem_singleton.1 q] at hj;exact hnj hj
    have hcl':CallsD Tryz.prog fn (.ptr idb 5 i0 3 :: caps) H fun r H'=>r=.tup []∧H'=H1:=hcl.mono fun r H' ⟨q1,q2⟩=>⟨q1,by rw [q2,← hH1];rfl⟩
    have hKj1:∀ k∈K,k ∉ ids b.jumps_∧k < H1.length:=fun k hk=>⟨(hKj k hk).1,by have:=(hKj k hk).2;omega⟩
    generalize rows.set i0 (valRow b (g b.value_))=rows1 at hrow1 hi1 hrlt1 hget1
    rcases hOj.ok.1 with hv | ⟨h0,hv⟩
    · have hv:b.jumps_.v=.sl b.jumps_.id 2 0 b.jumps_.l.length:=hv
      refine calls_of Tryz.func134 en_134 rfl (of_decide_eq_true rfl) (W_run mixed ⟨[],[],[],50,H.length,[0,1,4,5,10,20,21,22,32,33,34],[10,22,34]⟩ (fun _=>[]) (by kernel_rfl) ?_)
      simp only [Tryz.f134,stripX,stripOps,pickOps]
      simp [-V.flat,-V.one,one_int,one_bool,one_str,one_nilp,one_rp,one_nilsl,one_ro,one_cl,one_nilf,one_nili,one_ifc,one_ptr,one_sl,one_clo,flat_d,flat_ptr,flat_sl,flat_clo,flat_agg,hend,hrow,hrlt,hget2,hv]
      refine hcl'.mono ?_
      rintro r H' ⟨rfl,rfl⟩
      simp [-V.flat,-V.one,one_int,one_bool,one_str,one_nilp,one_rp,one_nilsl,one_ro,one_cl,one_nilf,one_nili,one_ifc,one_ptr,one_sl,one_clo,flat_d,flat_ptr,flat_sl,flat_clo,flat_agg,hrow1,hrlt1,hget1,hv]
      refine usedJ w (v:=g b.value_) hrow1 hi1 hE1 hOj1 hnj hKj1 hUj hl hla rfl ?_ fun l' H2 js hm he=>?_
      · simp
      · simp [-V.flat,-V.one,one_int,one_bool,one_str,one_nilp,one_rp,one_nilsl,one_ro,one_cl,one_nilf,one_nili,one_ifc,one_ptr,one_sl,one_clo,flat_d,flat_ptr,flat_sl,flat_clo,flat_agg,retQ]
        exact ⟨_,_,Fin.same (by have:=hm.len;omega),rfl,js,hm,he⟩
    · have hem:b.jumps_.l=[]:=List.length_eq_zero_iff.1 h0
      have he:Tr.era b.jumps_=(Tr.era b.jumps_).map (mpJ g):=by rw [show Tr.era b.jumps_=[] by show b.jumps_.l.map Tr.era=[];rw [hem];rfl];rfl
      rcases hv with hv | ⟨f,hv⟩
      all_goals
        refine calls_of Tryz.func134 en_134 rfl (of_decide_eq_true rfl) (W_run mixed ⟨[],[],[],50,H.length,[0,1,4,5,10,20,21,22,32,33,34],[10,22,34]⟩ (fun _=>[]) (by kernel_rfl) ?_)
        simp only [Tryz.f134,stripX,stripOps,pickOps]
        simp [-V.flat,-V.one,one_int,one_bool,one_str,one_nilp,one_rp,one_nilsl,one_ro,one_cl,one_nilf,one_nili,one_ifc,one_ptr,one_sl,one_clo,flat_d,flat_ptr,flat_sl,flat_clo,flat_agg,hend,hrow,hrlt,hget2,hv]
        refine hcl'.mono ?_
        rintro r H' ⟨rfl,rfl⟩
        simp [-V.flat,-V.one,one_int,one_bool,one_str,one_nilp,one_rp,one_nilsl,one_ro,one_cl,one_nilf,one_nili,one_ifc,one_ptr,one_sl,one_clo,flat_d,flat_ptr,flat_sl,flat_clo,flat_agg,hrow1,hrlt1,hget1,hv]
        refine W_loopH (α:=Unit) (fun a=>[(0,.ptr idb 5 i0 0),(1,.clo fn caps),(20,.d (.int .i64 0)),(21,.d (.int .i64 0))]) (fun a=>H') (fun a=>True) (fun a=>0) () ?_ trivial ?_
        · simp
        rintro ⟨⟩ _
        refine W_run mixed ⟨[],[],[],50,H.length,[0,1,4,5,10,20,21,22,32,33,34],[10,22,34]⟩ (fun _=>[]) (by kernel_rfl) ?_
        simp only [stripX,stripOps,pickOps]
        simp [-V.flat,-V.one,one_int,one_bool,one_str,one_nilp,one_rp,one_nilsl,one_ro,one_cl,one_nilf,one_nili,one_ifc,one_ptr,one_sl,one_clo,flat_d,flat_ptr,flat_sl,flat_clo,flat_agg,retQ]
        exact ⟨_,_,Fin.same (by omega),rfl,b.jumps_,Made.refl hOj1,he⟩
end
end Go.Proofs.YtnomiclfiijniaaGreat
end
