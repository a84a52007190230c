/- The data of the program, as Lean structures, and how they lie in cells. -/
import Derived.Test.YtdhincmlefpfkaaC19
set_option linter.unusedVariables false
namespace Go.BM
/-- A slice as a cell. -/
def sliceE {α : Type} (E : Enc α) : Enc (List α) := ⟨fun x => islE E x, 1, false, fun _ => rfl, fun _ => rfl, by decide, fun _ => Ok.cons (islE_ok _ _) Ok.nil⟩
theorem sliceE_sz {α : Type} (E : Enc α) : (sliceE E).sz = 1 := rfl
theorem sliceE_val {α : Type} (E : Enc α) (x : List α) : (sliceE E).val x = islE E x := rfl
structure TSign where
  key : Int
  id : Int
  deriving DecidableEq
def signE : Enc TSign := ⟨fun x => .agg #[.int .i64 x.key, .int .i64 x.id], 2, true, fun _ => rfl, fun _ => rfl, by decide, fun _ => Ok.cons (.int _ _) (Ok.cons (.int _ _) (Ok.nil))⟩
theorem signE_sz : signE.sz = 2 := rfl
theorem signE_val (x : TSign) : signE.val x = .agg #[.int .i64 x.key, .int .i64 x.id] := rfl
structure TRef where
  tx : Int
  at' : Int
  deriving DecidableEq
def refE : Enc TRef := ⟨fun x => .agg #[.int .i64 x.tx, .int .i64 x.at'], 2, true, fun _ => rfl, fun _ => rfl, by decide, fun _ => Ok.cons (.int _ _) (Ok.cons (.int _ _) (Ok.nil))⟩
theorem refE_sz : refE.sz = 2 := rfl
theorem refE_val (x : TRef) : refE.val x = .agg #[.int .i64 x.tx, .int .i64 x.at'] := rfl
structure TNode where
  id : Int
  prev : Int
  height : Int
  deriving DecidableEq
def nodeE : Enc TNode := ⟨fun x => .agg #[.int .i64 x.id, .int .i64 x.prev, .int .i64 x.height], 3, true, fun _ => rfl, fun _ => rfl, by decide, fun _ => Ok.cons (.int _ _) (Ok.cons (.int _ _) (Ok.cons (.int _ _) (Ok.nil)))⟩
theorem nodeE_sz : nodeE.sz = 3 := rfl
theorem nodeE_val (x : TNode) : nodeE.val x = .agg #[.int .i64 x.id, .int .i64 x.prev, .int .i64 x.height] := rfl
structure TChoice where
  ref : TRef
  tx : Int
  deriving DecidableEq
def choiceE : Enc TChoice := ⟨fun x => .agg #[.int .i64 x.ref.tx, .int .i64 x.ref.at', .int .i64 x.tx], 3, true, fun _ => rfl, fun _ => rfl, by decide, fun _ => Ok.cons (.int _ _) (Ok.cons (.int _ _) (Ok.cons (.int _ _) (Ok.nil)))⟩
theorem choiceE_sz : choiceE.sz = 3 := rfl
theorem choiceE_val (x : TChoice) : choiceE.val x = .agg #[.int .i64 x.ref.tx, .int .i64 x.ref.at', .int .i64 x.tx] := rfl
structure TMember where
  key : Int
  ref : TRef
  deriving DecidableEq
def memberE : Enc TMember := ⟨fun x => .agg #[.int .i64 x.key, .int .i64 x.ref.tx, .int .i64 x.ref.at'], 3, true, fun _ => rfl, fun _ => rfl, by decide, fun _ => Ok.cons (.int _ _) (Ok.cons (.int _ _) (Ok.cons (.int _ _) (Ok.nil)))⟩
theorem memberE_sz : memberE.sz = 3 := rfl
theorem memberE_val (x : TMember) : memberE.val x = .agg #[.int .i64 x.key, .int .i64 x.ref.tx, .int .i64 x.ref.at'] := rfl
structure TVote where
  key : Int
  kind : Int
  block : Int
  ref : TRef
  tx : Int
  deriving DecidableEq
def voteE : Enc TVote := ⟨fun x => .agg #[.int .i64 x.key, .int .i64 x.kind, .int .i64 x.block, .int .i64 x.ref.tx, .int .i64 x.ref.at', .int .i64 x.tx], 6, true, fun _ => rfl, fun _ => rfl, by decide, fun _ => Ok.cons (.int _ _) (Ok.cons (.int _ _) (Ok.cons (.int _ _) (Ok.cons (.int _ _) (Ok.cons (.int _ _) (Ok.cons (.int _ _) (Ok.nil))))))⟩
theorem voteE_sz : voteE.sz = 6 := rfl
theorem voteE_val (x : TVote) : voteE.val x = .agg #[.int .i64 x.key, .int .i64 x.kind, .int .i64 x.block, .int .i64 x.ref.tx, .int .i64 x.ref.at', .int .i64 x.tx] := rfl
structure TLedger where
  texts : List ByteArray
  signs : List TSign
  deriving DecidableEq
def ledgerE : Enc TLedger := ⟨fun x => .agg #[islE strE x.texts, islE signE x.signs], 2, true, fun _ => rfl, fun _ => rfl, by decide, fun _ => Ok.cons (islE_ok _ _) (Ok.cons (islE_ok _ _) (Ok.nil))⟩
theorem ledgerE_sz : ledgerE.sz = 2 := rfl
theorem ledgerE_val (x : TLedger) : ledgerE.val x = .agg #[islE strE x.texts, islE signE x.signs] := rfl
structure TRule where
  keys : List Int
  need : Int
  after : Int
  deriving DecidableEq
def ruleE : Enc TRule := ⟨fun x => .agg #[islE intE x.keys, .int .i64 x.need, .int .i64 x.after], 3, true, fun _ => rfl, fun _ => rfl, by decide, fun _ => Ok.cons (islE_ok _ _) (Ok.cons (.int _ _) (Ok.cons (.int _ _) (Ok.nil)))⟩
theorem ruleE_sz : ruleE.sz = 3 := rfl
theorem ruleE_val (x : TRule) : ruleE.val x = .agg #[islE intE x.keys, .int .i64 x.need, .int .i64 x.after] := rfl
structure TOut where
  value : Int
  rule : TRule
  deriving DecidableEq
def outE : Enc TOut := ⟨fun x => .agg #[.int .i64 x.value, islE intE x.rule.keys, .int .i64 x.rule.need, .int .i64 x.rule.after], 4, true, fun _ => rfl, fun _ => rfl, by decide, fun _ => Ok.cons (.int _ _) (Ok.cons (islE_ok _ _) (Ok.cons (.int _ _) (Ok.cons (.int _ _) (Ok.nil))))⟩
theorem outE_sz : outE.sz = 4 := rfl
theorem outE_val (x : TOut) : outE.val x = .agg #[.int .i64 x.value, islE intE x.rule.keys, .int .i64 x.rule.need, .int .i64 x.rule.after] := rfl
structure TTx where
  kind : Int
  member : Int
  ins : List TRef
  outs : List TOut
  deriving DecidableEq
def txE : Enc TTx := ⟨fun x => .agg #[.int .i64 x.kind, .int .i64 x.member, islE refE x.ins, islE outE x.outs], 4, true, fun _ => rfl, fun _ => rfl, by decide, fun _ => Ok.cons (.int _ _) (Ok.cons (.int _ _) (Ok.cons (islE_ok _ _) (Ok.cons (islE_ok _ _) (Ok.nil))))⟩
theorem txE_sz : txE.sz = 4 := rfl
theorem txE_val (x : TTx) : txE.val x = .agg #[.int .i64 x.kind, .int .i64 x.member, islE refE x.ins, islE outE x.outs] := rfl
structure TCoin where
  ref : TRef
  out : TOut
  height : Int
  mined : Bool
  deriving DecidableEq
def coinE : Enc TCoin := ⟨fun x => .agg #[.int .i64 x.ref.tx, .int .i64 x.ref.at', .int .i64 x.out.value, islE intE x.out.rule.keys, .int .i64 x.out.rule.need, .int .i64 x.out.rule.after, .int .i64 x.height, .bool x.mined], 8, true, fun _ => rfl, fun _ => rfl, by decide, fun _ => Ok.cons (.int _ _) (Ok.cons (.int _ _) (Ok.cons (.int _ _) (Ok.cons (islE_ok _ _) (Ok.cons (.int _ _) (Ok.cons (.int _ _) (Ok.cons (.int _ _) (Ok.cons (.bool _) (Ok.nil))))))))⟩
theorem coinE_sz : coinE.sz = 8 := rfl
theorem coinE_val (x : TCoin) : coinE.val x = .agg #[.int .i64 x.ref.tx, .int .i64 x.ref.at', .int .i64 x.out.value, islE intE x.out.rule.keys, .int .i64 x.out.rule.need, .int .i64 x.out.rule.after, .int .i64 x.height, .bool x.mined] := rfl
structure TBlock where
  prev : Int
  height : Int
  miner : Int
  txs : List Int
  deriving DecidableEq
def blockE : Enc TBlock := ⟨fun x => .agg #[.int .i64 x.prev, .int .i64 x.height, .int .i64 x.miner, islE intE x.txs], 4, true, fun _ => rfl, fun _ => rfl, by decide, fun _ => Ok.cons (.int _ _) (Ok.cons (.int _ _) (Ok.cons (.int _ _) (Ok.cons (islE_ok _ _) (Ok.nil))))⟩
theorem blockE_sz : blockE.sz = 4 := rfl
theorem blockE_val (x : TBlock) : blockE.val x = .agg #[.int .i64 x.prev, .int .i64 x.height, .int .i64 x.miner, islE intE x.txs] := rfl
structure TState where
  tip : Int
  height : Int
  coins : List TCoin
  members : List TMember
  deriving DecidableEq
def stateE : Enc TState := ⟨fun x => .agg #[.int .i64 x.tip, .int .i64 x.height, islE coinE x.coins, islE memberE x.members], 4, true, fun _ => rfl, fun _ => rfl, by decide, fun _ => Ok.cons (.int _ _) (Ok.cons (.int _ _) (Ok.cons (islE_ok _ _) (Ok.cons (islE_ok _ _) (Ok.nil))))⟩
theorem stateE_sz : stateE.sz = 4 := rfl
theorem stateE_val (x : TState) : stateE.val x = .agg #[.int .i64 x.tip, .int .i64 x.height, islE coinE x.coins, islE memberE x.members] := rfl
structure TUndo where
  id : Int
  spent : List (List TCoin)
  members : List TMember
  deriving DecidableEq
def undoE : Enc TUndo := ⟨fun x => .agg #[.int .i64 x.id, islE (sliceE coinE) x.spent, islE memberE x.members], 3, true, fun _ => rfl, fun _ => rfl, by decide, fun _ => Ok.cons (.int _ _) (Ok.cons (islE_ok _ _) (Ok.cons (islE_ok _ _) (Ok.nil)))⟩
theorem undoE_sz : undoE.sz = 3 := rfl
theorem undoE_val (x : TUndo) : undoE.val x = .agg #[.int .i64 x.id, islE (sliceE coinE) x.spent, islE memberE x.members] := rfl
structure TQuorum where
  keys : List Int
  need : Int
  deriving DecidableEq
def quorumE : Enc TQuorum := ⟨fun x => .agg #[islE intE x.keys, .int .i64 x.need], 2, true, fun _ => rfl, fun _ => rfl, by decide, fun _ => Ok.cons (islE_ok _ _) (Ok.cons (.int _ _) (Ok.nil))⟩
theorem quorumE_sz : quorumE.sz = 2 := rfl
theorem quorumE_val (x : TQuorum) : quorumE.val x = .agg #[islE intE x.keys, .int .i64 x.need] := rfl
structure TVoter where
  key : Int
  last : Int
  choices : List TChoice
  deriving DecidableEq
def voterE : Enc TVoter := ⟨fun x => .agg #[.int .i64 x.key, .int .i64 x.last, islE choiceE x.choices], 3, true, fun _ => rfl, fun _ => rfl, by decide, fun _ => Ok.cons (.int _ _) (Ok.cons (.int _ _) (Ok.cons (islE_ok _ _) (Ok.nil)))⟩
theorem voterE_sz : voterE.sz = 3 := rfl
theorem voterE_val (x : TVoter) : voterE.val x = .agg #[.int .i64 x.key, .int .i64 x.last, islE choiceE x.choices] := rfl
structure TCluster where
  quorum : TQuorum
  bad : List Int
  tree : List TNode
  voters : List TVoter
  votes : List TVote
  heard : List (List Int)
  deriving DecidableEq
def clusterE : Enc TCluster := ⟨fun x => .agg #[islE intE x.quorum.keys, .int .i64 x.quorum.need, islE intE x.bad, islE nodeE x.tree, islE voterE x.voters, islE voteE x.votes, islE (sliceE intE) x.heard], 7, true, fun _ => rfl, fun _ => rfl, by decide, fun _ => Ok.cons (islE_ok _ _) (Ok.cons (.int _ _) (Ok.cons (islE_ok _ _) (Ok.cons (islE_ok _ _) (Ok.cons (islE_ok _ _) (Ok.cons (islE_ok _ _) (Ok.cons (islE_ok _ _) (Ok.nil)))))))⟩
theorem clusterE_sz : clusterE.sz = 7 := rfl
theorem clusterE_val (x : TCluster) : clusterE.val x = .agg #[islE intE x.quorum.keys, .int .i64 x.quorum.need, islE intE x.bad, islE nodeE x.tree, islE voterE x.voters, islE voteE x.votes, islE (sliceE intE) x.heard] := rfl
structure TIntResult where
  code : Int
  value : Int
  deriving DecidableEq
def intResultE : Enc TIntResult := ⟨fun x => .agg #[.int .i64 x.code, .int .i64 x.value], 2, true, fun _ => rfl, fun _ => rfl, by decide, fun _ => Ok.cons (.int _ _) (Ok.cons (.int _ _) (Ok.nil))⟩
theorem intResultE_sz : intResultE.sz = 2 := rfl
theorem intResultE_val (x : TIntResult) : intResultE.val x = .agg #[.int .i64 x.code, .int .i64 x.value] := rfl
structure TIntsResult where
  code : Int
  list : List Int
  deriving DecidableEq
def intsResultE : Enc TIntsResult := ⟨fun x => .agg #[.int .i64 x.code, islE intE x.list], 2, true, fun _ => rfl, fun _ => rfl, by decide, fun _ => Ok.cons (.int _ _) (Ok.cons (islE_ok _ _) (Ok.nil))⟩
theorem intsResultE_sz : intsResultE.sz = 2 := rfl
theorem intsResultE_val (x : TIntsResult) : intsResultE.val x = .agg #[.int .i64 x.code, islE intE x.list] := rfl
structure TTextResult where
  code : Int
  text : ByteArray
  deriving DecidableEq
def textResultE : Enc TTextResult := ⟨fun x => .agg #[.int .i64 x.code, .string x.text], 2, true, fun _ => rfl, fun _ => rfl, by decide, fun _ => Ok.cons (.int _ _) (Ok.cons (.str _) (Ok.nil))⟩
theorem textResultE_sz : textResultE.sz = 2 := rfl
theorem textResultE_val (x : TTextResult) : textResultE.val x = .agg #[.int .i64 x.code, .string x.text] := rfl
structure TLedgerResult where
  code : Int
  id : Int
  ledger : TLedger
  deriving DecidableEq
def ledgerResultE : Enc TLedgerResult := ⟨fun x => .agg #[.int .i64 x.code, .int .i64 x.id, islE strE x.ledger.texts, islE signE x.ledger.signs], 4, true, fun _ => rfl, fun _ => rfl, by decide, fun _ => Ok.cons (.int _ _) (Ok.cons (.int _ _) (Ok.cons (islE_ok _ _) (Ok.cons (islE_ok _ _) (Ok.nil))))⟩
theorem ledgerResultE_sz : ledgerResultE.sz = 4 := rfl
theorem ledgerResultE_val (x : TLedgerResult) : ledgerResultE.val x = .agg #[.int .i64 x.code, .int .i64 x.id, islE strE x.ledger.texts, islE signE x.ledger.signs] := rfl
structure TTreeResult where
  code : Int
  tree : List TNode
  deriving DecidableEq
def treeResultE : Enc TTreeResult := ⟨fun x => .agg #[.int .i64 x.code, islE nodeE x.tree], 2, true, fun _ => rfl, fun _ => rfl, by decide, fun _ => Ok.cons (.int _ _) (Ok.cons (islE_ok _ _) (Ok.nil))⟩
theorem treeResultE_sz : treeResultE.sz = 2 := rfl
theorem treeResultE_val (x : TTreeResult) : treeResultE.val x = .agg #[.int .i64 x.code, islE nodeE x.tree] := rfl
structure TQuorumResult where
  code : Int
  quorum : TQuorum
  deriving DecidableEq
def quorumResultE : Enc TQuorumResult := ⟨fun x => .agg #[.int .i64 x.code, islE intE x.quorum.keys, .int .i64 x.quorum.need], 3, true, fun _ => rfl, fun _ => rfl, by decide, fun _ => Ok.cons (.int _ _) (Ok.cons (islE_ok _ _) (Ok.cons (.int _ _) (Ok.nil)))⟩
theorem quorumResultE_sz : quorumResultE.sz = 3 := rfl
theorem quorumResultE_val (x : TQuorumResult) : quorumResultE.val x = .agg #[.int .i64 x.code, islE intE x.quorum.keys, .int .i64 x.quorum.need] := rfl
structure TVoterResult where
  code : Int
  vote : TVote
  voter : TVoter
  deriving DecidableEq
def voterResultE : Enc TVoterResult := ⟨fun x => .agg #[.int .i64 x.code, .int .i64 x.vote.key, .int .i64 x.vote.kind, .int .i64 x.vote.block, .int .i64 x.vote.ref.tx, .int .i64 x.vote.ref.at', .int .i64 x.vote.tx, .int .i64 x.voter.key, .int .i64 x.voter.last, islE choiceE x.voter.choices], 10, true, fun _ => rfl, fun _ => rfl, by decide, fun _ => Ok.cons (.int _ _) (Ok.cons (.int _ _) (Ok.cons (.int _ _) (Ok.cons (.int _ _) (Ok.cons (.int _ _) (Ok.cons (.int _ _) (Ok.cons (.int _ _) (Ok.cons (.int _ _) (Ok.cons (.int _ _) (Ok.cons (islE_ok _ _) (Ok.nil))))))))))⟩
theorem voterResultE_sz : voterResultE.sz = 10 := rfl
theorem voterResultE_val (x : TVoterResult) : voterResultE.val x = .agg #[.int .i64 x.code, .int .i64 x.vote.key, .int .i64 x.vote.kind, .int .i64 x.vote.block, .int .i64 x.vote.ref.tx, .int .i64 x.vote.ref.at', .int .i64 x.vote.tx, .int .i64 x.voter.key, .int .i64 x.voter.last, islE choiceE x.voter.choices] := rfl
structure TBlockResult where
  code : Int
  block : TBlock
  deriving DecidableEq
def blockResultE : Enc TBlockResult := ⟨fun x => .agg #[.int .i64 x.code, .int .i64 x.block.prev, .int .i64 x.block.height, .int .i64 x.block.miner, islE intE x.block.txs], 5, true, fun _ => rfl, fun _ => rfl, by decide, fun _ => Ok.cons (.int _ _) (Ok.cons (.int _ _) (Ok.cons (.int _ _) (Ok.cons (.int _ _) (Ok.cons (islE_ok _ _) (Ok.nil)))))⟩
theorem blockResultE_sz : blockResultE.sz = 5 := rfl
theorem blockResultE_val (x : TBlockResult) : blockResultE.val x = .agg #[.int .i64 x.code, .int .i64 x.block.prev, .int .i64 x.block.height, .int .i64 x.block.miner, islE intE x.block.txs] := rfl
structure TTxResult where
  code : Int
  tx : TTx
  deriving DecidableEq
def txResultE : Enc TTxResult := ⟨fun x => .agg #[.int .i64 x.code, .int .i64 x.tx.kind, .int .i64 x.tx.member, islE refE x.tx.ins, islE outE x.tx.outs], 5, true, fun _ => rfl, fun _ => rfl, by decide, fun _ => Ok.cons (.int _ _) (Ok.cons (.int _ _) (Ok.cons (.int _ _) (Ok.cons (islE_ok _ _) (Ok.cons (islE_ok _ _) (Ok.nil)))))⟩
theorem txResultE_sz : txResultE.sz = 5 := rfl
theorem txResultE_val (x : TTxResult) : txResultE.val x = .agg #[.int .i64 x.code, .int .i64 x.tx.kind, .int .i64 x.tx.member, islE refE x.tx.ins, islE outE x.tx.outs] := rfl
structure TCoinsResult where
  code : Int
  coins : List TCoin
  deriving DecidableEq
def coinsResultE : Enc TCoinsResult := ⟨fun x => .agg #[.int .i64 x.code, islE coinE x.coins], 2, true, fun _ => rfl, fun _ => rfl, by decide, fun _ => Ok.cons (.int _ _) (Ok.cons (islE_ok _ _) (Ok.nil))⟩
theorem coinsResultE_sz : coinsResultE.sz = 2 := rfl
theorem coinsResultE_val (x : TCoinsResult) : coinsResultE.val x = .agg #[.int .i64 x.code, islE coinE x.coins] := rfl
structure TMembersResult where
  code : Int
  members : List TMember
  deriving DecidableEq
def membersResultE : Enc TMembersResult := ⟨fun x => .agg #[.int .i64 x.code, islE memberE x.members], 2, true, fun _ => rfl, fun _ => rfl, by decide, fun _ => Ok.cons (.int _ _) (Ok.cons (islE_ok _ _) (Ok.nil))⟩
theorem membersResultE_sz : membersResultE.sz = 2 := rfl
theorem membersResultE_val (x : TMembersResult) : membersResultE.val x = .agg #[.int .i64 x.code, islE memberE x.members] := rfl
structure TStateResult where
  code : Int
  fees : Int
  undo : TUndo
  state : TState
  deriving DecidableEq
def stateResultE : Enc TStateResult := ⟨fun x => .agg #[.int .i64 x.code, .int .i64 x.fees, .int .i64 x.undo.id, islE (sliceE coinE) x.undo.spent, islE memberE x.undo.members, .int .i64 x.state.tip, .int .i64 x.state.height, islE coinE x.state.coins, islE memberE x.state.members], 9, true, fun _ => rfl, fun _ => rfl, by decide, fun _ => Ok.cons (.int _ _) (Ok.cons (.int _ _) (Ok.cons (.int _ _) (Ok.cons (islE_ok _ _) (Ok.cons (islE_ok _ _) (Ok.cons (.int _ _) (Ok.cons (.int _ _) (Ok.cons (islE_ok _ _) (Ok.cons (islE_ok _ _) (Ok.nil)))))))))⟩
theorem stateResultE_sz : stateResultE.sz = 9 := rfl
theorem stateResultE_val (x : TStateResult) : stateResultE.val x = .agg #[.int .i64 x.code, .int .i64 x.fees, .int .i64 x.undo.id, islE (sliceE coinE) x.undo.spent, islE memberE x.undo.members, .int .i64 x.state.tip, .int .i64 x.state.height, islE coinE x.state.coins, islE memberE x.state.members] := rfl
structure TClusterResult where
  code : Int
  cluster : TCluster
  deriving DecidableEq
def clusterResultE : Enc TClusterResult := ⟨fun x => .agg #[.int .i64 x.code, islE intE x.cluster.quorum.keys, .int .i64 x.cluster.quorum.need, islE intE x.cluster.bad, islE nodeE x.cluster.tree, islE voterE x.cluster.voters, islE voteE x.cluster.votes, islE (sliceE intE) x.cluster.heard], 8, true, fun _ => rfl, fun _ => rfl, by decide, fun _ => Ok.cons (.int _ _) (Ok.cons (islE_ok _ _) (Ok.cons (.int _ _) (Ok.cons (islE_ok _ _) (Ok.cons (islE_ok _ _) (Ok.cons (islE_ok _ _) (Ok.cons (islE_ok _ _) (Ok.cons (islE_ok _ _) (Ok.nil))))))))⟩
theorem clusterResultE_sz : clusterResultE.sz = 8 := rfl
theorem clusterResultE_val (x : TClusterResult) : clusterResultE.val x = .agg #[.int .i64 x.code, islE intE x.cluster.quorum.keys, .int .i64 x.cluster.quorum.need, islE intE x.cluster.bad, islE nodeE x.cluster.tree, islE voterE x.cluster.voters, islE voteE x.cluster.votes, islE (sliceE intE) x.cluster.heard] := rfl
end Go.BM
