/- Branches whose way is known: plain laws, and trees whose jumps are made anew. No condition. -/
import Derived.Test.YtbmloeahcdneaaaGreatQE9
import Derived.Test.YtbmloeahcdneaaaGreatQS39
import Derived.Test.YtbmloeahcdneaaaGreatQS37
import Derived.Test.YtbmloeahcdneaaaGreatQS46
section
namespace Go.Proofs.YtbmloeahcdneaaaGreat
set_option maxRecDepth 100000
set_option linter.unusedSimpArgs false
set_option linter.unusedVariables false
theorem dec_of {α β:Type} [Enc β] [Dec β] [Inhabited β] [Tr α β] {H:Heap} {a:α} (h:Own H a):Dec.dec (α:=β) H (Tr.cells a)=(True,Tr.era a):=Prod.ext (eq_true h.dec.1) h.dec.2
theorem dec_ints {H:Heap} {f:Nat} {l:List Int} (h:H[f]? = some (.row 1 (rI l))):Dec.dec (α:=List Int) H [.sl f 1 0 l.length]=(True,l):=by
  have:=dec_of (own_row h)
  rw [era_AS_ints] at this
  exact this
theorem VW.dec {n0:Nat} {A:AFunc} {F:Func} {w f b:Nat} {G:Heap} (h:VW n0 A F w f b G) (hO:Own G A) (hs:solF A) (hF:Tr.era A=F):Dec.dec (α:=Ptr View) G [.ptr w 5 0 0]=(True,⟨viewD F⟩):=by
  have q1:Dec.dec (α:=List Block) G [.sl A.blocks_.id 5 0 A.blocks_.l.length]=(True,F.blocks_):=by
    have:=dec_of (AFunc.own_blocks_ hO)
    rw [cells_AS,hs.1] at this
    rw [this,← hF];rfl
  have q2:=dec_ints h.fr
  have q3:=dec_ints h.br
  have hp:A.params_=F.params_:=by rw [← hF];rfl
  rw [dec_ptr,h.view]
  show ((5=5∧0 + 5≤5)∧0 < 1∧(Dec.dec (α:=View) G [_,_,_,_,_]).1,(⟨(Dec.dec (α:=View) G [_,_,_,_,_]).2⟩:Ptr View))=_
  rw [dec_View,q1,q2,q3,dec_int,dec_int,hp]
  simp
  rfl
theorem VW.decA {n0:Nat} {A:AFunc} {F:Func} {w f b:Nat} {G:Heap} (h:VW n0 A F w f b G) (hO:Own G A) (hs:solF A) (hF:Tr.era A=F):decA (α:=Ptr View) G (.ptr w 5 0 0)=(True,⟨viewD F⟩):=by
  have:=h.dec hO hs hF
  unfold Go.Proofs.YtbmloeahcdneaaaGreat.decA
  rw [show (V.ptr w 5 0 0).flat=[.ptr w 5 0 0] from rfl,this]
  exact Prod.ext (eq_true ⟨rfl,trivial⟩) rfl
theorem VW.keep {n0:Nat} {A:AFunc} {F:Func} {w f b:Nat} {G G':Heap} {S:List Nat} (h:VW n0 A F w f b G) (ho:Only S G G') (h1:w ∉ S) (h2:f ∉ S) (h3:b ∉ S):VW n0 A F w f b G' :=
  ⟨(ho.at_ _ (List.getElem?_eq_some_iff.1 h.view).1 h1).trans h.view,(ho.at_ _ (List.getElem?_eq_some_iff.1 h.fr).1 h2).trans h.fr,(ho.at_ _ (List.getElem?_eq_some_iff.1 h.br).1 h3).trans h.br,h.ge⟩
theorem viewOf_own (H:Heap) (A:AFunc) (hO:Own H A) (hs:solF A) (hg:goodF (Tr.era A)=true) (hF:Enc.good (Tr.era A)):CallsD Tryz.prog 84 [.agg (Tr.cells A)] H fun r H'=>∃ w f b,r=.ptr w 5 0 0∧VW H.length A (Tr.era A) w f b H'∧Only [] H H':=by
  have hv:=hs.1
  have hO1:Own (H++[.row 2 [[.d (.int .i64 A.params_),.sl A.blocks_.id 5 0 A.blocks_.l.length]]]) A:=hO.frame (Only.app [] _ _) fun j _ hj=>absurd hj List.not_mem_nil
  have hnum:=numbered_own _ A hO1 hs hg
  rw [cells_AFunc,hv] at hnum ⊢
  refine calls_of Tryz.func84 en_84 rfl (of_decide_eq_true rfl) (W_run mixed ⟨[],[K_blocksh],[138,1000139],19,H.length,[0,1,2,3,4,17],[12,17]⟩ (fun _=>[]) (by kernel_rfl) ?_)
  simp only [Tryz.f84,stripX,stripOps,pickOps]
  simp [K_blocksh_f,K_blocksh_e,K_blocksh_g,-V.flat,-V.one,one_int,one_bool,one_str,one_nilp,one_rp,one_nilsl,one_ro,one_cl,one_nilf,one_nili,one_ifc,one_ptr,one_sl,one_clo,flat_d,flat_ptr,flat_sl,flat_clo,flat_agg,-decA,decA_int,decA_bool,decA_str]
  refine hnum.mono ?_
  rintro r H1 ⟨w,f,b,rfl,hw,ho⟩
  generalize hE:Tr.era A=F at hg hF hw ⊢
  have hl1:H.length + 1≤H1.length:=by have:=ho.len;simp at this;omega
  have gb:∀ R:Heap,(H1++R)[H.length]? = some (.row 2 [[.d (.int .i64 A.params_),.sl A.blocks_.id 5 0 A.blocks_.l.length]]):=fun R=>(List.getElem?_append_left (by omega)).trans ((ho.at_ _ (by simp) List.not_mem_nil).trans List.getElem?_concat_length)
  have hO2:Own (H1++[.row 1 [[.ptr w 5 0 0]]]) A:=(hO1.frame ho fun j _ hj=>absurd hj List.not_mem_nil).frame (Only.app [] _ _) fun j _ hj=>absurd hj List.not_mem_nil
  have hw2:=hw.keep (Only.app [] H1 [.row 1 [[.ptr w 5 0 0]]]) List.not_mem_nil List.not_mem_nil List.not_mem_nil
  have dL:decA (α:=List Block) (H1++[.row 1 [[.ptr w 5 0 0]]]) (.sl A.blocks_.id 5 0 A.blocks_.l.length)=(True,F.blocks_):=by
    have:=decA_S (AFunc.own_blocks_ hO2)
    rw [hv] at this
    rw [this,← hE];rfl
  have dC:decA (α:=Clo1 140 (Ptr (Ptr View))) (H1++[.row 1 [[.ptr w 5 0 0]]]) (.clo 140 [.ptr H1.length 1 0 0])=(True,⟨⟨⟨viewD F⟩⟩⟩):=by
    have hd:=hw2.dec hO2 hs hE
    unfold decA
    rw [show (V.clo 140 [.ptr H1.length 1 0 0]).flat=[.clo 140 [.ptr H1.length 1 0 0]] from rfl,dec_clo1,dec_ptr,List.getElem?_concat_length]
    show ((Enc.agg (Clo1 140 (Ptr (Ptr View)))=false∧_∧(1=1∧0 + 1≤1)∧0 < 1∧(Dec.dec (α:=Ptr View) (H1++[.row 1 [[.ptr w 5 0 0]]]) [.ptr w 5 0 0]).1),(⟨⟨(Dec.dec (α:=Ptr View) (H1++[.row 1 [[.ptr w 5 0 0]]]) [.ptr w 5 0 0]).2⟩⟩:Clo1 140 (Ptr (Ptr View))))=_
    rw [hd]
    exact Prod.ext (eq_true ⟨rfl,rfl,⟨rfl,by omega⟩,by omega,trivial⟩) rfl
  have hany:(F.blocks_.any fun x=>!bodyOk F.blocks_ (many F) x)=false:=by
    obtain ⟨_,_,_,_,_,_,hb⟩:=goodF_spec hg
    refine List.any_eq_false.2 fun x hx=>?_
    rw [List.all_eq_true.1 hb x hx];simp
  have hbs:Enc.good F.blocks_:=hF.2
  simp [K_138_f,K_138_e,K_blocks_f,K_blocks_e,K_138h_f,K_138h_e,K_blocksh_f,K_blocksh_e,K_138h_g,K_blocksh_g,-V.flat,-V.one,one_int,one_bool,one_str,one_nilp,one_rp,one_nilsl,one_ro,one_cl,one_nilf,one_nili,one_ifc,one_ptr,one_sl,one_clo,flat_d,flat_ptr,flat_sl,flat_clo,flat_agg,-decA,decA_int,decA_bool,decA_str,retQ,gb,dL,dC,hany,hbs,viewD_blocks,viewD_total]
  refine ⟨_,_,Fin.same (by simp;omega),w,rfl,⟨f,b,hw2.view,hw2.fr,hw2.br, ?_⟩, ?_⟩
  · have:=hw2.ge
    simp only [List.length_append,List.length_singleton] at this
    omega
  · exact (only_more (R:=[.row 1 [[.ptr w 5 0 0]]]) ((Only.app [] H _).trans ho (fun j hj=>hj) fun j hj _=>hj))
end Go.Proofs.YtbmloeahcdneaaaGreat
end

section
namespace Go.Proofs.YtbmloeahcdneaaaGreat
set_option maxRecDepth 100000
set_option linter.unusedSimpArgs false
set_option linter.unusedVariables false
def nuB (F:Func) (n:Int):Bool:=decide (0≤(instS F n F.blocks_ 0).1) && decide ((insAt F n).op_=1)
def nuN (F:Func) (n:Int):Int:=if nuB F n=true then (insAt F n).n_ else 0
end Go.Proofs.YtbmloeahcdneaaaGreat
end

section
namespace Go.Proofs.YtbmloeahcdneaaaGreat
set_option maxRecDepth 100000
set_option linter.unusedSimpArgs false
set_option linter.unusedVariables false
def foldB (F:Func) (b:Block):Block :=
  if b.end_=3∧nuB F b.value_=true then ⟨b.params_,b.insts_,2,0,[b.jumps_[if nuN F b.value_=0 then 1 else 0]?.getD default]⟩ else b
def foldK (F:Func) (b:Block):Int:=if b.end_=3∧nuB F b.value_=true then 1 else 0
theorem vw_dec2 {n0:Nat} {A:AFunc} {F:Func} {w f b:Nat} {G:Heap} (h:VW n0 A F w f b G) (hs:A.blocks_.v=.sl A.blocks_.id 5 0 A.blocks_.l.length) (hp:A.params_=F.params_) {l:List ABlock} (hO:Own G (⟨A.blocks_.v,l⟩:AS ABlock)) (hl:l.length=A.blocks_.l.length) :
    decA (α:=Ptr View) G (.ptr w 5 0 0)=(True,⟨⟨F.params_,l.map Tr.era,(viewD F).first_,(viewD F).block_,many F⟩⟩):=by
  have q1:Dec.dec (α:=List Block) G [.sl A.blocks_.id 5 0 A.blocks_.l.length]=(True,l.map Tr.era):=by
    have:=dec_of hO
    rw [cells_AS,hs] at this
    exact this
  have q2:=dec_ints h.fr
  have q3:=dec_ints h.br
  have key:Dec.dec (α:=Ptr View) G [.ptr w 5 0 0]=(True,⟨⟨F.params_,l.map Tr.era,(viewD F).first_,(viewD F).block_,many F⟩⟩):=by
    rw [dec_ptr,h.view]
    show ((5=5∧0 + 5≤5)∧0 < 1∧(Dec.dec (α:=View) G [_,_,_,_,_]).1,(⟨(Dec.dec (α:=View) G [_,_,_,_,_]).2⟩:Ptr View))=_
    rw [dec_View,q1,q2,q3,dec_int,dec_int,hp]
    simp
  unfold Go.Proofs.YtbmloeahcdneaaaGreat.decA
  rw [show (V.ptr w 5 0 0).flat=[.ptr w 5 0 0] from rfl,key]
  exact Prod.ext (eq_true ⟨rfl,trivial⟩) rfl
theorem OwnL.put {α β : Type} [Enc β] [Dec β] [Inhabited β] [Tr α β] {H H' : Heap} {p r : List α} {a a' : α} (h : OwnL H (p ++ a :: r)) (ha : Own H' a') (hi : ∀ j ∈ ids a', j ∈ ids a ∨ H.length ≤ j) (hs : ∀ j ∈ p.flatMap ids ++ r.flatMap ids, H'[j]? = H[j]?) : OwnL H' (p ++ a' :: r) := by
  have hnd:(p.flatMap ids++(ids a++r.flatMap ids)).Nodup:=by have:=h.nd;simpa [List.flatMap_append,List.flatMap_cons] using this
  obtain ⟨n1,n2,n3⟩:=List.nodup_append.1 hnd
  obtain ⟨n4,n5,n6⟩:=List.nodup_append.1 n2
  have lt:∀ j∈p.flatMap ids++r.flatMap ids,j < H.length:=fun j hj=>h.lt (by
    rw [List.flatMap_append,List.flatMap_cons]
    rcases List.mem_append.1 hj with q | q
    · exact List.mem_append_left _ q
    · exact List.mem_append_right _ (List.mem_append_right _ q))
  refine ⟨fun b hb=>?_,fun q hq=>?_, ?_⟩
  · rcases List.mem_append.1 hb with hb | hb
    · exact h.ok b (List.mem_append_left _ hb)
    · rcases List.mem_cons.1 hb with rfl | hb
      · exact ha.ok
      · exact h.ok b (List.mem_append_right _ (List.mem_cons_of_mem _ hb))
  · simp only [List.flatMap_append,List.flatMap_cons] at hq
    rcases List.mem_append.1 hq with hq | hq
    · have hm:q.1∈p.flatMap ids:=by rw [← ids_flat];exact List.mem_map.2 ⟨q,hq,rfl⟩
      rw [hs q.1 (List.mem_append_left _ hm)]
      exact h.at_ q (by simp only [List.flatMap_append];exact List.mem_append_left _ hq)
    · rcases List.mem_append.1 hq with hq | hq
      · exact ha.at_ q hq
      · have hm:q.1∈r.flatMap ids:=by rw [← ids_flat];exact List.mem_map.2 ⟨q,hq,rfl⟩
        rw [hs q.1 (List.mem_append_right _ hm)]
        exact h.at_ q (by simp only [List.flatMap_append,List.flatMap_cons];exact List.mem_append_right _ (List.mem_append_right _ hq))
  · rw [List.flatMap_append,List.flatMap_cons]
    refine List.nodup_append.2 ⟨n1,List.nodup_append.2 ⟨ha.nd,n5,fun x hx y hy e=>?_⟩,fun x hx y hy e=>?_⟩
    · subst e
      rcases hi x hx with q | q
      · exact n6 x q x hy rfl
      · have:=lt x (List.mem_append_right _ hy);omega
    · subst e
      rcases List.mem_append.1 hy with hy | hy
      · rcases hi x hy with q | q
        · exact n3 x hx x (List.mem_append_left _ q) rfl
        · have:=lt x (List.mem_append_left _ hx);omega
      · exact n3 x hx x (List.mem_append_right _ hy) rfl
end Go.Proofs.YtbmloeahcdneaaaGreat
end
