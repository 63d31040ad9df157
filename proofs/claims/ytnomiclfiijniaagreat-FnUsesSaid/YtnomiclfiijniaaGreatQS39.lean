/- All places of a function at which values are used: uses, over trees. No condition. -/
import Derived.Test.YtnomiclfiijniaaGreatQS38
namespace Go.Proofs.YtnomiclfiijniaaGreat
set_option maxRecDepth 100000
set_option linter.unusedSimpArgs false
set_option linter.unusedVariables false
section
variable {fn:Nat} {caps:List V} {E:Heap→Prop} {K:List Nat} {U:Int→Prop} {g:Int→Int}
theorem usesI (w : Wr fn caps E K U g) {b : ABlock} {H0 : Heap} {idb i0 : Nat} {rows : List (List V)} {vf v12 v13 : V} (hrow : H0[idb]? = some (.row 5 rows)) (hi : rows[i0]? = some (Tr.cells b)) (hE : E H0) (hO : Own H0 b.insts_)
    (hn:idb ∉ ids b.insts_) (hK:∀ k∈K,k ∉ ids b.insts_∧k < H0.length) (hU:∀ x∈(Tr.era b.insts_).flatMap (·.args_),U x) (hl:b.insts_.l.length≤1000) (hla:∀ a∈b.insts_.l,a.args_.l.length≤1000)
    {n0:Nat} {c:Code} (hcd:(loopsIn (Tryz.f100.body.getD .skip))[1]? = some c) {Q:Exit→St→Prop} {s:St}
    (hs:IntoH s [(0,vf),(1,.clo fn caps),(4,.d (.int .i64 i0)),(5,.ptr idb 5 i0 0),(12,v12),(13,v13),(26,.d (.int .i64 b.insts_.l.length)),(27,.d (.int .i64 0))] H0)
    (hq:∀ l' H' js,mk l' 0=vf→mk l' 1=.clo fn caps→mk l' 5=.ptr idb 5 i0 0→mk l' 12=v12→mk l' 13=v13→Made H0 H' b.insts_ js→Tr.era js=(Tr.era b.insts_).map (mpI g)→Q (.exit 2) ⟨mk l',H'⟩):W Tryz.prog 60 n0 c Q s:=by
  cases hcd
  have hrlt:i0 < rows.length:=(List.getElem?_eq_some_iff.1 hi).1
  refine W_loopH (α:=List AInst × List AInst × Heap) (fun a=>[(0,vf),(1,.clo fn caps),(4,.d (.int .i64 i0)),(5,.ptr idb 5 i0 0),(12,v12),(13,v13),(26,.d (.int .i64 b.insts_.l.length)),(27,.d (.int .i64 a.1.length))]) (fun a=>a.2.2)
    (fun a=>Mk (nk (mpI g)) H0 b.insts_ 0 a.1 a.2.1 0 a.2.2) (fun a=>b.insts_.l.length - a.1.length) ([],b.insts_.l,H0) hs (Mk.nil hO) ?_
  rintro ⟨m,l,H1⟩ hm
  dsimp only at hm
  have hrow1:H1[idb]? = some (.row 5 rows):=(hm.only.at_ idb (List.getElem?_eq_some_iff.1 hrow).1 hn).trans hrow
  cases l with
  | nil =>
    have hge:=hm.ge
    obtain ⟨q1,q2⟩:=hm.done hge
    rw [mkL_nk] at q2
    have q3:Tr.era (⟨b.insts_.v,m⟩:AS AInst)=(Tr.era b.insts_).map (mpI g):=congrArg Prod.fst q2
    refine W_run mixed ⟨[],[],[134],60,n0,[0,1,4,5,6,7,12,13,14,26,27,28,38,39,40],[14,28,40]⟩ (fun _=>[]) (by kernel_rfl) ?_
    simp only [stripX,stripOps,pickOps]
    simp [-V.flat,-V.one,one_int,one_bool,one_str,one_nilp,one_rp,one_nilsl,one_ro,one_cl,one_nilf,one_nili,one_ifc,one_ptr,one_sl,one_clo,flat_d,flat_ptr,flat_sl,flat_clo,flat_agg,Nat.not_lt.2 hge]
    exact hq _ _ _ (by simp) (by simp) (by simp) (by simp) (by simp) q1 q3
  | cons a l =>
    have hlt:=hm.lt
    obtain ⟨r1,r2,r3⟩:=hm.row
    have hsub:=hm.sub
    have hmem:a∈b.insts_.l:=List.mem_of_mem_drop (by rw [← hm.left];exact List.mem_cons_self)
    have hv:b.insts_.v=.sl b.insts_.id 3 0 b.insts_.l.length:=(hO.row (by omega)).1
    have haO:Own H1 a.args_:=AInst.own_args_ hm.wk.elem
    have hal:=hla a hmem
    have hget2:∀ h:i0 < rows.length,rows[i0]=[.d (.int .i64 b.params_),.sl b.insts_.id 3 0 b.insts_.l.length,.d (.int .i64 b.end_),.d (.int .i64 b.value_),b.jumps_.v]:=fun h=>by
      have:=List.getElem?_eq_getElem h
      rw [hi,cells_ABlock,hv] at this
      exact (Option.some.inj this).symm
    have hidb:idb ∉ ids a.args_:=fun q=>hn (hsub idb q)
    have hjn:b.insts_.id ∉ ids a.args_:=fun q=>(hm.own.row (by simp;omega)).2.2.1 (List.mem_flatMap.2 ⟨a,by simp,q⟩)
    have hE1:E H1:=w.only hm.only hE hK
    have hUa:∀ x∈a.args_.l,U x:=fun x hx=>hU x (List.mem_flatMap.2 ⟨Tr.era a,List.mem_map.2 ⟨a,hmem,rfl⟩,by rw [show (Tr.era a).args_=Tr.era a.args_ from rfl,era_AS_ints];exact hx⟩)
    have hj1000:b.insts_.l.length≤1000:=hl
    have fin:∀ H' (s5:AS Int),Made H1 H' a.args_ s5→s5.l=a.args_.l.map g→Mk (nk (mpI g)) H0 b.insts_ 0 (m++[(⟨a.op_,a.n_,s5⟩:AInst)]) l 0 H':=fun H' s5 hmd he =>
      hm.close (hm.wk.call (AInst.made_args_ hmd)) (by
        show Inst.mk a.op_ a.n_ (Tr.era s5)=Inst.mk a.op_ a.n_ ((Tr.era a.args_).map g)
        rw [era_AS_ints,era_AS_ints,he])
    have wi:IntKind.i64.wrap ((m.length:Int) + 1)=((m.length + 1:Nat):Int):=by rw [wrap_id] <;> omega
    rcases haO.ok.1 with hv3 | ⟨h0,hv3⟩
    · have hv3:a.args_.v=.sl a.args_.id 1 0 a.args_.l.length:=hv3
      refine W_run mixed ⟨[],[],[134],60,n0,[0,1,4,5,6,7,12,13,14,26,27,28,38,39,40],[14,28,40]⟩ (fun _=>[]) (by kernel_rfl) ?_
      simp only [stripX,stripOps,pickOps]
      simp [-V.flat,-V.one,one_int,one_bool,one_str,one_nilp,one_rp,one_nilsl,one_ro,one_cl,one_nilf,one_nili,one_ifc,one_ptr,one_sl,one_clo,flat_d,flat_ptr,flat_sl,flat_clo,flat_agg,hlt,hrow1,hrlt,hget2,r1,rowL_len,rowL_get,rowL_at,hv3]
      refine W_loopH (α:=List Int × List Int × Heap) (fun q=>[(0,vf),(1,.clo fn caps),(4,.d (.int .i64 i0)),(5,.ptr idb 5 i0 0),(6,.d (.int .i64 m.length)),(12,v12),(13,v13),(26,.d (.int .i64 b.insts_.l.length)),(27,.d (.int .i64 m.length)),(38,.d (.int .i64 a.args_.l.length)),(39,.d (.int .i64 q.1.length))]) (fun q=>q.2.2)
        (fun q=>Mk (nk g) H1 a.args_ 0 q.1 q.2.1 0 q.2.2) (fun q=>a.args_.l.length - q.1.length) ([],a.args_.l,H1) ?_ (Mk.nil haO) ?_
      · simp
      rintro ⟨m2,l2,H2⟩ hm2
      dsimp only at hm2
      have hrow2:H2[idb]? = some (.row 5 rows):=(hm2.only.at_ idb (List.getElem?_eq_some_iff.1 hrow1).1 hidb).trans hrow1
      have hjr2:H2[b.insts_.id]? = some (.row 3 (rowL m a l)):=(hm2.only.at_ _ r2 hjn).trans r1
      cases l2 with
      | nil =>
        have hge:=hm2.ge
        obtain ⟨q1,q2⟩:=hm2.done hge
        rw [mkL_nk] at q2
        have q3:m2.map Tr.era=(Tr.era a.args_).map g:=congrArg Prod.fst q2
        rw [era_ints,era_AS_ints] at q3
        have hf:=fin H2 ⟨a.args_.v,m2⟩ q1 q3
        refine W_run mixed ⟨[],[],[134],60,n0,[0,1,4,5,6,7,12,13,14,26,27,28,38,39,40],[14,28,40]⟩ (fun _=>[]) (by kernel_rfl) ?_
        simp only [stripX,stripOps,pickOps]
        simp [-V.flat,-V.one,one_int,one_bool,one_str,one_nilp,one_rp,one_nilsl,one_ro,one_cl,one_nilf,one_nili,one_ifc,one_ptr,one_sl,one_clo,flat_d,flat_ptr,flat_sl,flat_clo,flat_agg,Nat.not_lt.2 hge]
        exact ⟨_,l,_,hf,by simp;omega,rfl,by rw [wi];simp⟩
      | cons x l2 =>
        have hlt2:=hm2.lt
        obtain ⟨t1,t2,t3⟩:=hm2.row
        have hx:x∈a.args_.l:=List.mem_of_mem_drop (by rw [← hm2.left];exact List.mem_cons_self)
        have hE2:E H2:=w.only hm2.only hE1 fun k hk=>⟨fun q=>(hK k hk).1 (hsub k q),by have:=(hK k hk).2;have:=hm.len;omega⟩
        have hsetx:(rowL m2 x l2).set m2.length [.d (.int .i64 (g x))]=rowL m2 (g x) l2:=rowL_set (g x)
        refine W_run mixed ⟨[],[],[134],60,n0,[0,1,4,5,6,7,12,13,14,26,27,28,38,39,40],[14,28,40]⟩ (fun _=>[]) (by kernel_rfl) ?_
        simp only [stripX,stripOps,pickOps]
        simp [-V.flat,-V.one,one_int,one_bool,one_str,one_nilp,one_rp,one_nilsl,one_ro,one_cl,one_nilf,one_nili,one_ifc,one_ptr,one_sl,one_clo,flat_d,flat_ptr,flat_sl,flat_clo,flat_agg,hlt2,hlt,hrow2,hrlt,hget2,hjr2,t1,rowL_len,rowL_get,rowL_at,hv3]
        refine (w.call H2 a.args_.id 1 (rowL m2 x l2) m2.length 0 x [.d (.int .i64 x)] hE2 t1 rowL_get rfl rfl (hUa x hx) fun q=>(hK _ q).1 (hsub _ t3)).mono ?_
        rintro r H' ⟨rfl,rfl⟩
        rw [show ([V.d (.int .i64 x)].set 0 (.d (.int .i64 (g x))))=[.d (.int .i64 (g x))] from rfl,hsetx]
        have hc:=hm2.close (hm2.wk.write (g x) trivial rfl) rfl
        simp [-V.flat,-V.one,one_int,one_bool,one_str,one_nilp,one_rp,one_nilsl,one_ro,one_cl,one_nilf,one_nili,one_ifc,one_ptr,one_sl,one_clo,flat_d,flat_ptr,flat_sl,flat_clo,flat_agg]
        exact ⟨_,l2,_,hc,by simp;omega,rfl,by rw [wrap_id] <;> (try simp) <;> omega⟩
    · have he:a.args_.l=[]:=List.length_eq_zero_iff.1 h0
      have hf:=fin H1 a.args_ (Made.refl haO) (by rw [he];rfl)
      rcases hv3 with hv3 | ⟨f,hv3⟩
      all_goals
        refine W_run mixed ⟨[],[],[134],60,n0,[0,1,4,5,6,7,12,13,14,26,27,28,38,39,40],[14,28,40]⟩ (fun _=>[]) (by kernel_rfl) ?_
        simp only [stripX,stripOps,pickOps]
        simp [-V.flat,-V.one,one_int,one_bool,one_str,one_nilp,one_rp,one_nilsl,one_ro,one_cl,one_nilf,one_nili,one_ifc,one_ptr,one_sl,one_clo,flat_d,flat_ptr,flat_sl,flat_clo,flat_agg,hlt,hrow1,hrlt,hget2,r1,rowL_len,rowL_get,rowL_at,hv3]
        refine W_loopH (α:=Unit) (fun q=>[(0,vf),(1,.clo fn caps),(4,.d (.int .i64 i0)),(5,.ptr idb 5 i0 0),(6,.d (.int .i64 m.length)),(12,v12),(13,v13),(26,.d (.int .i64 b.insts_.l.length)),(27,.d (.int .i64 m.length)),(38,.d (.int .i64 0)),(39,.d (.int .i64 0))]) (fun q=>H1)
          (fun q=>True) (fun q=>0) () ?_ trivial ?_
        · simp
        rintro ⟨⟩ _
        refine W_run mixed ⟨[],[],[134],60,n0,[0,1,4,5,6,7,12,13,14,26,27,28,38,39,40],[14,28,40]⟩ (fun _=>[]) (by kernel_rfl) ?_
        simp only [stripX,stripOps,pickOps]
        simp [-V.flat,-V.one,one_int,one_bool,one_str,one_nilp,one_rp,one_nilsl,one_ro,one_cl,one_nilf,one_nili,one_ifc,one_ptr,one_sl,one_clo,flat_d,flat_ptr,flat_sl,flat_clo,flat_agg]
        exact ⟨_,l,_,hf,by simp;omega,rfl,by rw [wi];simp⟩
def smallA (A:AFunc):Prop:=A.blocks_.l.length≤1000∧∀ b∈A.blocks_.l,b.insts_.l.length≤1000∧b.jumps_.l.length≤1000∧(∀ x∈b.insts_.l,x.args_.l.length≤1000)∧∀ j∈b.jumps_.l,j.args_.l.length≤1000
def SB (b:ABlock):Prop:=b.insts_.v=.sl b.insts_.id 3 0 b.insts_.l.length∧b.jumps_.v=.sl b.jumps_.id 2 0 b.jumps_.l.length
theorem usesT (w : Wr fn caps E K U g) {A : AFunc} {H : Heap} {idf : Nat} (hf : H[idf]? = some (.row 2 [[.d (.int .i64 A.params_), A.blocks_.v]])) (hE : E H) (hO : Own H A) (hn : idf ∉ ids A) (hK : ∀ k ∈ K, k ∉ ids A ∧ k < H.length)
    (hU:∀ b∈(Tr.era A).blocks_,∀ x∈allU b,U x) (hl:smallA A) :
    CallsD Tryz.prog 100 [.ptr idf 2 0 0,.clo fn caps] H fun r H'=>r=.tup []∧∃ bs:AS ABlock,Made H H' A.blocks_ bs∧Tr.era bs=(Tr.era A.blocks_).map (mpB g)∧((∀ b∈A.blocks_.l,SB b)→∀ b∈bs.l,SB b):=by
  obtain ⟨hl1,hl2⟩:=hl
  have hOb:=AFunc.own_blocks_ hO
  have hnb:idf ∉ ids A.blocks_:=hn
  have hfl:idf < H.length:=(List.getElem?_eq_some_iff.1 hf).1
  rcases hOb.ok.1 with hv | ⟨h0,hv⟩
  · have hv : A.blocks_.v = .sl A.blocks_.id 5 0 A.blocks_.l.length := hv
    rw [hv] at hf
    refine calls_of Tryz.func100 en_100 rfl (of_decide_eq_true rfl) (W_run mixed ⟨[],[],[134],60,H.length,[0,1,4,5,6,7,12,13,14,26,27,28,38,39,40],[14,28,40]⟩ (fun _=>[]) (by kernel_rfl) ?_)
    simp only [Tryz.f100,stripX,stripOps,pickOps]
    simp [-V.flat,-V.one,one_int,one_bool,one_str,one_nilp,one_rp,one_nilsl,one_ro,one_cl,one_nilf,one_nili,one_ifc,one_ptr,one_sl,one_clo,flat_d,flat_ptr,flat_sl,flat_clo,flat_agg,hf]
    refine W_loopH (α:=List ABlock × List ABlock × Heap) (fun a=>[(0,.ptr idf 2 0 0),(1,.clo fn caps),(12,.d (.int .i64 A.blocks_.l.length)),(13,.d (.int .i64 a.1.length))]) (fun a=>a.2.2)
      (fun a=>Mk (nk (mpB g)) H A.blocks_ 0 a.1 a.2.1 0 a.2.2∧((∀ b∈A.blocks_.l,SB b)→∀ b∈a.1,SB b)) (fun a=>A.blocks_.l.length - a.1.length) ([],A.blocks_.l,H) ?_ ⟨Mk.nil hOb,fun _ b hb=>absurd hb List.not_mem_nil⟩ ?_
    · simp
    rintro ⟨m,l,H1⟩ ⟨hm,hsb⟩
    dsimp only at hm hsb
    have hf1:H1[idf]? = some (.row 2 [[.d (.int .i64 A.params_),.sl A.blocks_.id 5 0 A.blocks_.l.length]]):=(hm.only.at_ idf hfl hnb).trans hf
    cases l with
    | nil =>
      have hge:=hm.ge
      obtain ⟨q1,q2⟩:=hm.done hge
      rw [mkL_nk] at q2
      refine W_run mixed ⟨[],[],[134],60,H.length,[0,1,4,5,6,7,12,13,14,26,27,28,38,39,40],[14,28,40]⟩ (fun _=>[]) (by kernel_rfl) ?_
      simp only [stripX,stripOps,pickOps]
      simp [-V.flat,-V.one,one_int,one_bool,one_str,one_nilp,one_rp,one_nilsl,one_ro,one_cl,one_nilf,one_nili,one_ifc,one_ptr,one_sl,one_clo,flat_d,flat_ptr,flat_sl,flat_clo,flat_agg,retQ,Nat.not_lt.2 hge]
      exact ⟨_,_,Fin.same (Nat.le_of_eq q1.len.symm),rfl,_,q1,congrArg Prod.fst q2,hsb⟩
    | cons b l =>
      have hlt:=hm.lt
      obtain ⟨r1,r2,r3⟩:=hm.row
      have hsub:=hm.sub
      have hmem:b∈A.blocks_.l:=List.mem_of_mem_drop (by rw [← hm.left];exact List.mem_cons_self)
      obtain ⟨s1,s2,s3,s4⟩:=hl2 b hmem
      have hbO:=hm.wk.elem
      have hIO:=ABlock.own_insts_ hbO
      have hE1:E H1:=w.only hm.only hE hK
      have hidn:A.blocks_.id ∉ ids b:=fun q=>(hm.own.row (by simp;omega)).2.2.1 (List.mem_flatMap.2 ⟨b,by simp,q⟩)
      have hidI:A.blocks_.id ∉ ids b.insts_:=fun q=>hidn (by rw [ids_ABlock];exact List.mem_append_left _ q)
      have hKI:∀ k∈K,k ∉ ids b.insts_∧k < H1.length:=fun k hk=>⟨fun q=>(hK k hk).1 (hsub k (by rw [ids_ABlock];exact List.mem_append_left _ q)),by have:=(hK k hk).2;have:=hm.len;omega⟩
      have hUb:=hU (Tr.era b) (List.mem_map.2 ⟨b,hmem,rfl⟩)
      have hUI:∀ x∈(Tr.era b.insts_).flatMap (·.args_),U x:=fun x hx=>hUb x (List.mem_append_left _ hx)
      have hUu:∀ x∈usedL (Tr.era b),U x:=fun x hx=>hUb x (List.mem_append_right _ hx)
      have hgetb:(rowL m b l)[m.length]? = some (Tr.cells b):=rowL_get
      have wi:IntKind.i64.wrap ((m.length:Int) + 1)=((m.length + 1:Nat):Int):=by rw [wrap_id] <;> omega
      -- behind the loop over the instructions
      have rest:∀ H2 (js:AS AInst),Made H1 H2 b.insts_ js→Tr.era js=(Tr.era b.insts_).map (mpI g)→CallsD Tryz.prog 134 [.ptr A.blocks_.id 5 m.length 0,.clo fn caps] H2 fun r H'=>r=.tup []∧∃ b',Mk (nk (mpB g)) H A.blocks_ 0 (m++[b']) l 0 H'∧((∀ b∈A.blocks_.l,SB b)→∀ c∈m++[b'],SB c):=by
        intro H2 js hmd he
        have wk:=hm.wk.call (ABlock.made_insts_ hbO hmd)
        obtain ⟨t1,t2,t3⟩:=wk.row
        have hE2:E H2:=w.only hmd.only hE1 hKI
        have hu:=usedT w (b:={ b with insts_:=js }) (i0:=m.length) t1 rowL_get hE2 wk.elem
          (fun q=>(wk.own.row (by simp;omega)).2.2.1 (List.mem_flatMap.2 ⟨_,List.mem_append_right _ List.mem_cons_self,q⟩))
          (fun k hk=>⟨fun q=>(hK k hk).1 (by rw [q];exact t3),fun q=>(hK k hk).1 (wk.sub k q),by have:=(hK k hk).2;have:=wk.len;omega⟩)
          (fun x hx=>hUu x hx) s2 s4
        refine hu.mono ?_
        rintro r H' ⟨h1,js2,hmd2,he2⟩
        refine ⟨h1,_,hm.close ((wk.write (⟨b.params_,js,b.end_,valG g b,b.jumps_⟩:ABlock) wk.elem.ok rfl).call (ABlock.made_jumps_ (wk.write (⟨b.params_,js,b.end_,valG g b,b.jumps_⟩:ABlock) wk.elem.ok rfl).elem (s:=js2) ?_)) ?_,fun hall c hc=>?_⟩
        · have e:(rowL m { b with insts_:=js } l).set m.length (valRow { b with insts_:=js } (valG g { b with insts_:=js }))=rowL m (⟨b.params_,js,b.end_,valG g b,b.jumps_⟩:ABlock) l:=rowL_set (⟨b.params_,js,b.end_,valG g b,b.jumps_⟩:ABlock)
          rw [e] at hmd2
          exact hmd2
        · show Block.mk b.params_ (Tr.era js) b.end_ (valG g b) (Tr.era js2)=_
          rw [he,he2];rfl
        · rcases List.mem_append.1 hc with q | q
          · exact hsb hall c q
          · rw [List.mem_singleton.1 q]
            have v1:js.v=b.insts_.v:=List.head_eq_of_cons_eq hmd.cells
            have v2:js2.v=b.jumps_.v:=List.head_eq_of_cons_eq hmd2.cells
            have n1:js.l.length=b.insts_.l.length:=by
              have:=congrArg List.length he
              simpa [Tr.era] using this
            have n2:js2.l.length=b.jumps_.l.length:=by
              have:=congrArg List.length he2
              simpa [Tr.era] using this
            obtain ⟨c1,c2⟩:=hall b hmem
            refine ⟨?_, ?_⟩
            · show js.v=.sl js.v.slId 3 0 js.l.length
              rw [v1,n1];exact c1
            · show js2.v=.sl js2.v.slId 2 0 js2.l.length
              rw [v2,n2];exact c2
      rcases hIO.ok.1 with hvI | ⟨hI0,hvI⟩
      · have hvI:b.insts_.v=.sl b.insts_.id 3 0 b.insts_.l.length:=hvI
        refine W_run mixed ⟨[],[],[134],60,H.length,[0,1,4,5,6,7,12,13,14,26,27,28,38,39,40],[14,28,40]⟩ (fun _=>[]) (by kernel_rfl) ?_
        simp only [stripX,stripOps,pickOps]
        simp [-V.flat,-V.one,one_int,one_bool,one_str,one_nilp,one_rp,one_nilsl,one_ro,one_cl,one_nilf,one_nili,one_ifc,one_ptr,one_sl,one_clo,flat_d,flat_ptr,flat_sl,flat_clo,flat_agg,hlt,hf1,r1,rowL_len,rowL_get,rowL_at,hvI]
        refine usesI w (vf:=.ptr idf 2 0 0) (v12:=.d (.int .i64 A.blocks_.l.length)) (v13:=.d (.int .i64 m.length)) r1 hgetb hE1 hIO hidI hKI hUI s1 s3 rfl ?_ fun l' H2 js e0 e1 e5 e12 e13 hmd he=>?_
        · simp
        simp [-V.flat,-V.one,one_int,one_bool,one_str,one_nilp,one_rp,one_nilsl,one_ro,one_cl,one_nilf,one_nili,one_ifc,one_ptr,one_sl,one_clo,flat_d,flat_ptr,flat_sl,flat_clo,flat_agg,e0,e1,e5,e12,e13]
        refine (rest H2 js hmd he).mono ?_
        rintro r H' ⟨rfl,b',hmk,hmb⟩
        simp [-V.flat,-V.one,one_int,one_bool,one_str,one_nilp,one_rp,one_nilsl,one_ro,one_cl,one_nilf,one_nili,one_ifc,one_ptr,one_sl,one_clo,flat_d,flat_ptr,flat_sl,flat_clo,flat_agg,e0,e1,e5,e12,e13]
        exact ⟨_,l,_,⟨hmk,hmb⟩,by simp;omega,rfl,by rw [wi];simp⟩
      · have hem:b.insts_.l=[]:=List.length_eq_zero_iff.1 hI0
        have hr:=rest H1 b.insts_ (Made.refl hIO) (by rw [show Tr.era b.insts_=[] by show b.insts_.l.map Tr.era=[];rw [hem];rfl];rfl)
        rcases hvI with hvI | ⟨f,hvI⟩
        all_goals
          refine W_run mixed ⟨[],[],[134],60,H.length,[0,1,4,5,6,7,12,13,14,26,27,28,38,39,40],[14,28,40]⟩ (fun _=>[]) (by kernel_rfl) ?_
          simp only [stripX,stripOps,pickOps]
          simp [-V.flat,-V.one,one_int,one_bool,one_str,one_nilp,one_rp,one_nilsl,one_ro,one_cl,one_nilf,one_nili,one_ifc,one_ptr,one_sl,one_clo,flat_d,flat_ptr,flat_sl,flat_clo,flat_agg,hlt,hf1,r1,rowL_len,rowL_get,rowL_at,hvI]
          refine W_loopH (α:=Unit) (fun a=>[(0,.ptr idf 2 0 0),(1,.clo fn caps),(5,.ptr A.blocks_.id 5 m.length 0),(12,.d (.int .i64 A.blocks_.l.length)),(13,.d (.int .i64 m.length)),(26,.d (.int .i64 0)),(27,.d (.int .i64 0))]) (fun a=>H1) (fun a=>True) (fun a=>0) () ?_ trivial ?_
          · simp
          rintro ⟨⟩ _
          refine W_run mixed ⟨[],[],[134],60,H.length,[0,1,4,5,6,7,12,13,14,26,27,28,38,39,40],[14,28,40]⟩ (fun _=>[]) (by kernel_rfl) ?_
          simp only [stripX,stripOps,pickOps]
          simp [-V.flat,-V.one,one_int,one_bool,one_str,one_nilp,one_rp,one_nilsl,one_ro,one_cl,one_nilf,one_nili,one_ifc,one_ptr,one_sl,one_clo,flat_d,flat_ptr,flat_sl,flat_clo,flat_agg]
          refine hr.mono ?_
          rintro r H' ⟨rfl,b',hmk,hmb⟩
          simp [-V.flat,-V.one,one_int,one_bool,one_str,one_nilp,one_rp,one_nilsl,one_ro,one_cl,one_nilf,one_nili,one_ifc,one_ptr,one_sl,one_clo,flat_d,flat_ptr,flat_sl,flat_clo,flat_agg]
          exact ⟨_,l,_,⟨hmk,hmb⟩,by simp;omega,rfl,by rw [wi];simp⟩
  · have he:A.blocks_.l=[]:=List.length_eq_zero_iff.1 h0
    have he2:Tr.era A.blocks_=(Tr.era A.blocks_).map (mpB g):=by rw [show Tr.era A.blocks_=[] by show A.blocks_.l.map Tr.era=[];rw [he];rfl];rfl
    rcases hv with hv | ⟨f,hv⟩
    all_goals
      rw [hv] at hf
      refine calls_of Tryz.func100 en_100 rfl (of_decide_eq_true rfl) (W_run mixed ⟨[],[],[134],60,H.length,[0,1,4,5,6,7,12,13,14,26,27,28,38,39,40],[14,28,40]⟩ (fun _=>[]) (by kernel_rfl) ?_)
      simp only [Tryz.f100,stripX,stripOps,pickOps]
      simp [-V.flat,-V.one,one_int,one_bool,one_str,one_nilp,one_rp,one_nilsl,one_ro,one_cl,one_nilf,one_nili,one_ifc,one_ptr,one_sl,one_clo,flat_d,flat_ptr,flat_sl,flat_clo,flat_agg,hf]
      refine W_loopH (α:=Unit) (fun a=>[(0,.ptr idf 2 0 0),(1,.clo fn caps),(12,.d (.int .i64 0)),(13,.d (.int .i64 0))]) (fun a=>H) (fun a=>True) (fun a=>0) () ?_ trivial ?_
      · simp
      rintro ⟨⟩ _
      refine W_run mixed ⟨[],[],[134],60,H.length,[0,1,4,5,6,7,12,13,14,26,27,28,38,39,40],[14,28,40]⟩ (fun _=>[]) (by kernel_rfl) ?_
      simp only [stripX,stripOps,pickOps]
      simp [-V.flat,-V.one,one_int,one_bool,one_str,one_nilp,one_rp,one_nilsl,one_ro,one_cl,one_nilf,one_nili,one_ifc,one_ptr,one_sl,one_clo,flat_d,flat_ptr,flat_sl,flat_clo,flat_agg,retQ]
      exact ⟨_,_,Fin.same (Nat.le_refl _),rfl,A.blocks_,Made.refl hOb,he2,id⟩
end
end Go.Proofs.YtnomiclfiijniaaGreat
