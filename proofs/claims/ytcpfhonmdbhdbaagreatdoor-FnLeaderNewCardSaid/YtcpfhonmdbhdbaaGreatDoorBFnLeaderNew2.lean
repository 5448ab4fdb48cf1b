/- Texts of this claim, packed: walks and laws that its row stands on. Each states its own conditions. -/
import Derived.Below
import Derived.ChangeArms
import Derived.ChangeOld
import Derived.ChangeSlices
import Derived.DataElems
import Derived.OpenShut
import Derived.ProofKit
import Derived.ShutString
import Derived.SizedLaws
import Derived.Test.YtcpfhonmdbhdbaaGreatDoorBFnLeaderNew1
namespace Go.Proofs.YtcpfhonmdbhdbaaGreatDoor.Am
open Go
def sch_3_5 : Sch := .one 0 (.one 1 (.all [(2, .all [(3, .one 4 (.one 5 (.one 6 (.one 7 (.one 8 (.one 9 (.one 10 (.one 11 (.one 12 (.done))))))))))])]))
def sch_3_6 : Sch := .one 0 (.one 1 (.all [(2, .all [(3, .one 4 (.done))])]))
def sch_4_10 : Sch := .one 0 (.one 1 (.all [(2, .all [(3, .one 4 (.done))])]))
def sch_18_7 : Sch := .one 0 (.one 1 (.one 2 (.one 3 (.one 4 (.one 5 (.one 6 (.one 7 (.one 8 (.one 9 (.one 10 (.one 11 (.one 12 (.one 13 (.one 14 (.one 15 (.one 16 (.one 17 (.one 18 (.one 19 (.one 20 (.one 21 (.one 22 (.one 23 (.one 24 (.one 25 (.one 26 (.one 27 (.one 28 (.one 29 (.one 30 (.one 31 (.one 32 (.one 33 (.one 34 (.one 35 (.one 36 (.one 37 (.one 38 (.one 39 (.one 40 (.one 41 (.one 42 (.one 43 (.one 44 (.one 45 (.done))))))))))))))))))))))))))))))))))))))))))))))
def sch_19_6 : Sch := .one 0 (.one 1 (.all [(2, .all [(3, .all [(4, .one 5 (.all [(6, .done)]))])])]))
def sch_20_6 : Sch := .one 0 (.one 1 (.one 2 (.one 3 (.one 4 (.one 5 (.one 6 (.one 7 (.one 8 (.one 9 (.all [(10, .one 11 (.done))]))))))))))
def sch_26_6 : Sch := .one 0 (.one 1 (.one 2 (.one 3 (.one 4 (.one 5 (.one 6 (.one 7 (.one 8 (.one 9 (.all [(10, .one 11 (.done))]))))))))))
def sch_28_5 : Sch := .one 0 (.all [(1, .one 2 (.one 3 (.one 4 (.one 5 (.one 6 (.one 7 (.one 8 (.one 9 (.one 10 (.one 11 (.one 12 (.one 13 (.one 14 (.one 15 (.one 16 (.one 17 (.one 18 (.one 19 (.one 20 (.one 21 (.one 22 (.one 23 (.one 24 (.one 25 (.one 26 (.one 27 (.one 28 (.one 29 (.one 30 (.done))))))))))))))))))))))))))))))])
def sch_29_10 : Sch := .one 0 (.one 1 (.one 2 (.one 3 (.one 4 (.one 5 (.one 6 (.one 7 (.one 8 (.one 9 (.all [(10, .one 11 (.done))]))))))))))
def sch_31_4 : Sch := .one 0 (.one 1 (.one 2 (.one 3 (.one 4 (.one 5 (.one 6 (.one 7 (.one 8 (.one 9 (.one 10 (.one 11 (.one 12 (.one 13 (.one 14 (.one 15 (.one 16 (.one 17 (.one 19 (.all [(18, .all [(20, .one 21 (.one 22 (.done)))])])))))))))))))))))))
def sch_34_6 : Sch := .one 0 (.one 1 (.one 2 (.one 3 (.one 4 (.one 5 (.one 6 (.one 7 (.one 8 (.one 9 (.all [(10, .one 11 (.done))]))))))))))
def sch_35_6 : Sch := .one 0 (.one 1 (.one 2 (.one 3 (.one 4 (.one 5 (.one 6 (.one 7 (.one 8 (.one 9 (.all [(10, .one 11 (.done))]))))))))))
def sch_39_6 : Sch := .one 0 (.one 1 (.one 2 (.one 3 (.one 4 (.one 5 (.one 6 (.one 7 (.one 8 (.one 9 (.one 10 (.done)))))))))))
def sch_39_11 : Sch := .one 0 (.one 1 (.one 2 (.one 3 (.one 4 (.one 5 (.one 6 (.one 7 (.one 8 (.one 9 (.one 10 (.done)))))))))))
def sch_39_16 : Sch := .one 0 (.one 1 (.one 2 (.one 3 (.one 4 (.one 5 (.one 6 (.one 7 (.one 8 (.one 9 (.one 10 (.done)))))))))))
def sch_41_10 : Sch := .one 0 (.one 1 (.one 2 (.one 3 (.one 4 (.all [(5, .one 6 (.one 7 (.one 8 (.all [(9, .all [(10, .all [(11, .all [(12, .done)])])]), (10, .all [(9, .all [(11, .all [(12, .done)])])])])))), (9, .all [(5, .one 6 (.one 7 (.one 8 (.all [(10, .all [(11, .all [(12, .done)])])])))), (10, .all [(5, .one 6 (.one 7 (.one 8 (.all [(11, .all [(12, .done)])]))))])]), (10, .all [(5, .one 6 (.one 7 (.one 8 (.all [(9, .all [(11, .all [(12, .done)])])])))), (9, .all [(5, .one 6 (.one 7 (.one 8 (.all [(11, .all [(12, .done)])]))))])])])))))
def sch_42_5 : Sch := .one 0 (.one 1 (.one 2 (.one 3 (.one 4 (.one 5 (.one 6 (.one 7 (.one 8 (.one 9 (.one 10 (.one 11 (.one 12 (.one 13 (.one 14 (.one 15 (.one 16 (.one 17 (.done))))))))))))))))))
def sch_42_6 : Sch := .one 0 (.one 1 (.one 2 (.one 3 (.one 4 (.one 5 (.one 6 (.all [(7, .all [(8, .all [(9, .one 10 (.all [(11, .done)]))])])])))))))
def sch_44_6 : Sch := .one 0 (.all [(1, .one 2 (.one 3 (.one 4 (.one 5 (.one 6 (.one 7 (.one 8 (.one 9 (.one 10 (.one 11 (.one 12 (.one 13 (.one 14 (.one 15 (.one 16 (.one 17 (.one 18 (.one 19 (.one 20 (.one 21 (.one 22 (.one 23 (.one 24 (.one 25 (.one 26 (.one 27 (.one 28 (.one 29 (.one 30 (.done))))))))))))))))))))))))))))))])
def sch_47_10 : Sch := .one 0 (.one 1 (.one 2 (.all [(3, .all [(4, .all [(5, .one 6 (.all [(7, .done)]))])])])))
def sch_48_6 : Sch := .one 0 (.one 1 (.one 2 (.one 3 (.one 4 (.one 5 (.one 6 (.one 7 (.all [(8, .one 9 (.done))]))))))))
def sch_50_6 : Sch := .one 0 (.one 1 (.one 2 (.one 3 (.one 4 (.one 5 (.one 6 (.one 7 (.one 8 (.done)))))))))
def sch_54_4 : Sch := .one 0 (.one 1 (.one 2 (.one 3 (.one 4 (.one 5 (.one 6 (.one 7 (.one 8 (.one 9 (.done))))))))))
def sch_58_4 : Sch := .one 0 (.one 1 (.one 2 (.one 3 (.one 4 (.one 5 (.one 6 (.one 7 (.one 8 (.one 9 (.done))))))))))
def sch_59_4 : Sch := .one 0 (.one 1 (.one 2 (.one 3 (.one 4 (.one 5 (.one 6 (.one 7 (.one 8 (.one 9 (.one 10 (.one 11 (.one 12 (.all [(13, .one 14 (.one 15 (.one 16 (.one 17 (.one 18 (.one 19 (.one 20 (.one 21 (.one 22 (.one 23 (.one 24 (.one 25 (.one 26 (.one 27 (.one 28 (.all [(29, .one 30 (.one 31 (.one 32 (.done))))]))))))))))))))))])))))))))))))
def sch_59_9 : Sch := .one 0 (.one 1 (.one 2 (.one 3 (.one 4 (.one 5 (.one 6 (.one 7 (.one 8 (.one 9 (.one 10 (.done)))))))))))
def sch_60_4 : Sch := .one 0 (.one 1 (.one 2 (.one 3 (.one 4 (.one 5 (.one 6 (.one 7 (.one 8 (.one 9 (.one 10 (.one 11 (.one 12 (.one 13 (.one 14 (.one 15 (.one 16 (.one 17 (.one 18 (.one 19 (.one 20 (.one 21 (.one 22 (.one 23 (.one 24 (.one 25 (.one 26 (.one 27 (.one 28 (.one 29 (.one 30 (.one 31 (.one 32 (.one 33 (.done))))))))))))))))))))))))))))))))))
def sch_62_3 : Sch := .one 0 (.one 1 (.all [(2, .all [(3, .all [(4, .done)])])]))
def sch_65_3 : Sch := .one 0 (.one 1 (.one 2 (.one 3 (.one 4 (.one 5 (.one 6 (.one 7 (.one 8 (.one 9 (.one 10 (.one 11 (.one 12 (.one 13 (.one 14 (.one 15 (.one 16 (.one 17 (.one 18 (.done)))))))))))))))))))
def sch_67_5 : Sch := .one 0 (.all [(1, .all [(2, .all [(3, .all [(4, .done)])]), (3, .one 2 (.all [(4, .done)]))]), (2, .all [(1, .all [(3, .all [(4, .done)])])])])
def sch_67_7 : Sch := .one 0 (.all [(1, .all [(2, .all [(3, .all [(4, .done)])]), (3, .one 2 (.all [(4, .done)]))]), (2, .all [(1, .all [(3, .all [(4, .done)])])])])
def sch_70_5 : Sch := .one 0 (.one 1 (.one 2 (.all [(3, .all [(4, .all [(5, .one 6 (.all [(7, .done)]))])])])))
def sch_73_6 : Sch := .one 0 (.one 1 (.one 2 (.one 3 (.one 4 (.one 5 (.one 6 (.one 7 (.one 8 (.done)))))))))
def sch_74_6 : Sch := .one 0 (.one 1 (.one 2 (.one 3 (.one 4 (.one 5 (.one 6 (.one 7 (.one 8 (.done)))))))))
def sch_83_12 : Sch := .one 0 (.one 1 (.one 2 (.one 3 (.one 4 (.all [(5, .all [(6, .all [(7, .done)])]), (6, .all [(5, .all [(7, .done)])])])))))
def sch_86_1 : Sch := .one 0 (.one 1 (.one 2 (.one 3 (.all [(4, .all [(5, .all [(6, .done)])]), (5, .all [(4, .all [(6, .done)])])]))))
def sch_86_6 : Sch := .one 0 (.all [(1, .all [(2, .all [(3, .done)])])])
def sch_86_7 : Sch := .one 0 (.one 1 (.one 2 (.all [(3, .all [(4, .all [(5, .done)])])])))
def sch_86_9 : Sch := .one 0 (.one 1 (.one 2 (.one 3 (.all [(4, .all [(5, .all [(6, .done)])])]))))
def sch_86_11 : Sch := .one 0 (.one 1 (.one 2 (.one 3 (.one 4 (.one 5 (.one 6 (.one 7 (.one 8 (.all [(9, .one 10 (.one 11 (.all [(12, .all [(13, .done)])])))])))))))))
def sch_86_14 : Sch := .one 0 (.one 1 (.one 2 (.one 3 (.one 4 (.one 5 (.one 6 (.all [(7, .done)])))))))
def sch_86_16 : Sch := .one 0 (.all [(1, .all [(2, .all [(3, .done)])])])
def sch_86_17 : Sch := .one 0 (.one 1 (.one 2 (.one 3 (.one 4 (.all [(5, .all [(6, .one 7 (.one 8 (.all [(9, .all [(10, .done)])])))])])))))
def sch_86_22 : Sch := .one 0 (.all [(1, .all [(2, .all [(3, .done)])])])
def sch_86_24 : Sch := .one 0 (.one 1 (.one 2 (.one 3 (.one 4 (.one 5 (.all [(6, .all [(7, .all [(8, .done)])])]))))))
def sch_86_30 : Sch := .one 0 (.all [(1, .all [(2, .all [(3, .done)])])])
def sch_86_33 : Sch := .one 0 (.one 1 (.one 2 (.all [(3, .all [(4, .one 5 (.one 6 (.all [(7, .all [(8, .done)])])))])])))
def sch_87_1 : Sch := .one 0 (.one 1 (.one 2 (.one 3 (.all [(4, .all [(5, .all [(6, .done)])]), (5, .all [(4, .all [(6, .done)])])]))))
def sch_87_5 : Sch := .one 0 (.one 1 (.one 2 (.one 3 (.one 4 (.one 5 (.one 6 (.one 7 (.all [(8, .one 9 (.one 10 (.one 11 (.one 12 (.one 13 (.done))))))]))))))))
def sch_87_7 : Sch := .one 0 (.all [(1, .all [(2, .all [(3, .done)])])])
def sch_87_10 : Sch := .one 0 (.one 1 (.one 2 (.one 3 (.all [(4, .all [(5, .one 6 (.one 7 (.all [(8, .all [(9, .done)])])))])]))))
def sch_87_13 : Sch := .one 0 (.one 1 (.one 2 (.one 3 (.one 4 (.one 5 (.all [(6, .one 7 (.one 8 (.one 9 (.one 10 (.one 11 (.one 12 (.one 13 (.done))))))))]))))))
def sch_87_15 : Sch := .one 0 (.all [(1, .all [(2, .all [(3, .done)])])])
def sch_87_17 : Sch := .one 0 (.one 1 (.one 2 (.all [(3, .all [(4, .one 5 (.one 6 (.all [(7, .all [(8, .done)])])))])])))
def sch_87_19 : Sch := .one 0 (.one 1 (.one 2 (.one 3 (.all [(4, .all [(5, .all [(6, .done)])])]))))
def sch_87_22 : Sch := .one 0 (.all [(1, .all [(2, .all [(3, .done)])])])
def sch_87_24 : Sch := .one 0 (.one 1 (.one 2 (.one 3 (.one 4 (.one 5 (.all [(6, .one 7 (.one 8 (.one 9 (.one 10 (.one 11 (.done))))))]))))))
def sch_87_26 : Sch := .one 0 (.all [(1, .all [(2, .all [(3, .done)])])])
def sch_87_30 : Sch := .one 0 (.one 1 (.one 2 (.one 3 (.one 4 (.one 5 (.all [(6, .one 7 (.one 8 (.one 9 (.one 10 (.one 11 (.done))))))]))))))
def sch_87_32 : Sch := .one 0 (.one 1 (.one 2 (.all [(3, .all [(4, .one 5 (.one 6 (.all [(7, .all [(8, .done)])])))])])))
def sch_87_35 : Sch := .one 0 (.all [(1, .all [(2, .all [(3, .done)])])])
def sch_87_38 : Sch := .one 0 (.one 1 (.all [(2, .all [(3, .all [(4, .done)])])]))
def sch_88_1 : Sch := .one 0 (.one 1 (.one 2 (.one 3 (.all [(4, .all [(5, .all [(6, .done)])]), (5, .all [(4, .all [(6, .done)])])]))))
def sch_88_4 : Sch := .one 0 (.one 1 (.one 2 (.one 3 (.all [(4, .one 5 (.one 6 (.one 7 (.one 8 (.one 9 (.one 10 (.one 11 (.done))))))))]))))
def sch_88_6 : Sch := .one 0 (.all [(1, .all [(2, .all [(3, .done)])])])
def sch_88_9 : Sch := .one 0 (.one 1 (.one 2 (.all [(3, .all [(4, .one 5 (.one 6 (.all [(7, .all [(8, .done)])])))])])))
def sch_88_11 : Sch := .one 0 (.one 1 (.one 2 (.one 3 (.all [(4, .one 5 (.one 6 (.one 7 (.one 8 (.one 9 (.done))))))]))))
def sch_88_13 : Sch := .one 0 (.one 1 (.one 2 (.all [(3, .all [(4, .one 5 (.one 6 (.all [(7, .all [(8, .done)])])))])])))
def sch_88_15 : Sch := .one 0 (.one 1 (.one 2 (.all [(3, .all [(4, .all [(5, .done)])])])))
def sch_88_17 : Sch := .one 0 (.one 1 (.one 2 (.one 3 (.all [(4, .all [(5, .all [(6, .done)])])]))))
def sch_88_19 : Sch := .one 0 (.one 1 (.one 2 (.one 3 (.one 4 (.one 5 (.all [(6, .all [(7, .all [(8, .all [(9, .done)])])])]))))))
def sch_88_20 : Sch := .one 0 (.one 1 (.one 2 (.one 3 (.all [(4, .all [(5, .all [(6, .done)])]), (5, .all [(4, .all [(6, .done)])])]))))
def sch_88_23 : Sch := .one 0 (.one 1 (.one 2 (.one 3 (.one 4 (.all [(5, .all [(6, .all [(7, .all [(8, .done)])])])])))))
def sch_88_25 : Sch := .one 0 (.one 1 (.one 2 (.one 3 (.one 4 (.all [(5, .all [(6, .all [(7, .all [(8, .done)])])])])))))
def sch_88_26 : Sch := .one 0 (.one 1 (.one 2 (.one 3 (.one 4 (.all [(5, .all [(6, .all [(7, .all [(8, .done)])])])])))))
def sch_89_1 : Sch := .one 0 (.one 1 (.one 2 (.one 3 (.all [(4, .all [(5, .all [(6, .done)])]), (5, .all [(4, .all [(6, .done)])])]))))
def sch_89_4 : Sch := .one 0 (.one 1 (.one 2 (.one 3 (.all [(4, .all [(5, .all [(6, .done)])])]))))
def sch_89_6 : Sch := .one 0 (.one 1 (.one 2 (.one 3 (.one 4 (.all [(5, .one 6 (.one 7 (.one 8 (.one 9 (.one 10 (.done))))))])))))
def sch_89_8 : Sch := .one 0 (.one 1 (.one 2 (.all [(3, .all [(4, .one 5 (.one 6 (.all [(7, .all [(8, .done)])])))])])))
def sch_89_11 : Sch := .one 0 (.one 1 (.one 2 (.one 3 (.one 4 (.all [(5, .one 6 (.done))])))))
def sch_89_13 : Sch := .one 0 (.all [(1, .all [(2, .all [(3, .done)])])])
def sch_89_15 : Sch := .one 0 (.one 1 (.all [(2, .all [(3, .all [(4, .done)])])]))
def sch_89_16 : Sch := .one 0 (.one 1 (.one 2 (.one 3 (.one 4 (.one 5 (.one 6 (.all [(7, .all [(8, .all [(9, .done)])])])))))))
def sch_89_19 : Sch := .one 0 (.all [(1, .all [(2, .all [(3, .done)])])])
def sch_89_21 : Sch := .one 0 (.one 1 (.one 2 (.one 3 (.one 4 (.all [(5, .one 6 (.done))])))))
def sch_89_24 : Sch := .one 0 (.one 1 (.one 2 (.one 3 (.one 4 (.one 5 (.one 6 (.all [(7, .one 8 (.one 9 (.one 10 (.one 11 (.one 12 (.one 13 (.one 14 (.done))))))))])))))))
def sch_89_26 : Sch := .one 0 (.all [(1, .all [(2, .all [(3, .done)])])])
def sch_89_30 : Sch := .one 0 (.one 1 (.one 2 (.all [(3, .all [(4, .one 5 (.one 6 (.all [(7, .all [(8, .done)])])))])])))
def sch_89_31 : Sch := .one 0 (.one 1 (.one 2 (.all [(3, .all [(4, .one 5 (.one 6 (.all [(7, .all [(8, .done)])])))])])))
def sch_89_34 : Sch := .one 0 (.all [(1, .all [(2, .all [(3, .done)])])])
def sch_89_36 : Sch := .one 0 (.one 1 (.one 2 (.one 3 (.one 4 (.all [(5, .all [(6, .all [(7, .all [(8, .all [(9, .done)])])])])])))))
def sch_89_37 : Sch := .one 0 (.one 1 (.one 2 (.one 3 (.one 4 (.all [(5, .all [(6, .all [(7, .all [(8, .all [(9, .done)])])])])])))))
def sch_90_1 : Sch := .one 0 (.one 1 (.one 2 (.one 3 (.all [(4, .all [(5, .all [(6, .done)])]), (5, .all [(4, .all [(6, .done)])])]))))
def sch_90_4 : Sch := .one 0 (.one 1 (.one 2 (.one 3 (.all [(4, .all [(5, .all [(6, .done)])])]))))
def sch_90_10 : Sch := .one 0 (.one 1 (.one 2 (.one 3 (.one 4 (.one 5 (.one 6 (.one 7 (.one 8 (.one 9 (.one 10 (.one 11 (.one 12 (.all [(13, .all [(14, .one 15 (.done))])])))))))))))))
def sch_90_11 : Sch := .one 0 (.one 1 (.all [(2, .all [(3, .all [(4, .done)])])]))
def sch_90_13 : Sch := .one 0 (.one 1 (.one 2 (.one 3 (.one 4 (.all [(5, .one 6 (.one 7 (.one 8 (.one 9 (.one 10 (.done))))))])))))
def sch_90_15 : Sch := .one 0 (.all [(1, .all [(2, .all [(3, .done)])])])
def sch_90_16 : Sch := .one 0 (.one 1 (.all [(2, .all [(3, .all [(4, .done)])])]))
def sch_90_18 : Sch := .one 0 (.one 1 (.one 2 (.one 3 (.one 4 (.all [(5, .one 6 (.one 7 (.one 8 (.one 9 (.one 10 (.done))))))])))))
def sch_90_20 : Sch := .one 0 (.one 1 (.one 2 (.all [(3, .all [(4, .one 5 (.one 6 (.all [(7, .all [(8, .done)])])))])])))
def sch_90_24 : Sch := .one 0 (.one 1 (.one 2 (.one 3 (.one 4 (.all [(5, .one 6 (.one 7 (.one 8 (.one 9 (.one 10 (.done))))))])))))
def sch_90_27 : Sch := .one 0 (.all [(1, .all [(2, .all [(3, .done)])])])
def sch_90_30 : Sch := .one 0 (.one 1 (.one 2 (.one 3 (.one 4 (.one 5 (.one 6 (.all [(7, .one 8 (.one 9 (.one 10 (.one 11 (.one 12 (.one 13 (.one 14 (.done))))))))])))))))
def sch_90_32 : Sch := .one 0 (.all [(1, .all [(2, .all [(3, .done)])])])
def sch_90_36 : Sch := .one 0 (.one 1 (.one 2 (.all [(3, .all [(4, .one 5 (.one 6 (.all [(7, .all [(8, .done)])])))])])))
def sch_90_37 : Sch := .one 0 (.one 1 (.one 2 (.all [(3, .all [(4, .one 5 (.one 6 (.all [(7, .all [(8, .done)])])))])])))
def sch_91_3 : Sch := .one 0 (.one 1 (.one 2 (.one 3 (.all [(4, .all [(5, .all [(6, .done)])])]))))
def sch_91_7 : Sch := .one 0 (.one 1 (.one 2 (.one 3 (.one 4 (.all [(5, .all [(6, .all [(7, .all [(8, .done)])])])])))))
def sch_91_15 : Sch := .one 0 (.one 1 (.one 2 (.one 3 (.one 4 (.all [(5, .one 6 (.one 7 (.one 8 (.one 9 (.one 10 (.done))))))])))))
def sch_91_19 : Sch := .one 0 (.one 1 (.one 2 (.one 3 (.one 4 (.all [(5, .all [(6, .done)])])))))
def sch_91_20 : Sch := .one 0 (.one 1 (.all [(2, .all [(3, .all [(4, .done)])])]))
def sch_91_21 : Sch := .one 0 (.one 1 (.one 2 (.one 3 (.all [(4, .all [(5, .all [(6, .done)])]), (5, .all [(4, .all [(6, .done)])])]))))
def sch_91_24 : Sch := .one 0 (.one 1 (.one 2 (.all [(3, .all [(4, .all [(5, .all [(6, .done)])])])])))
def sch_91_27 : Sch := .one 0 (.all [(1, .all [(2, .all [(3, .done)])])])
def sch_91_29 : Sch := .one 0 (.all [(1, .all [(2, .all [(3, .done)])])])
def sch_91_30 : Sch := .one 0 (.one 1 (.one 2 (.one 3 (.one 4 (.one 5 (.all [(6, .all [(7, .all [(8, .done)])])]))))))
def sch_91_34 : Sch := .one 0 (.one 1 (.one 2 (.all [(3, .all [(4, .one 5 (.one 6 (.all [(7, .all [(8, .done)])])))])])))
def sch_91_37 : Sch := .one 0 (.all [(1, .all [(2, .all [(3, .done)])])])
def sch_91_39 : Sch := .one 0 (.one 1 (.one 2 (.one 3 (.one 5 (.one 6 (.all [(4, .all [(7, .one 8 (.one 9 (.all [(10, .all [(11, .done)])])))])]))))))
def sch_91_42 : Sch := .one 0 (.all [(1, .all [(2, .all [(3, .done)])])])
def sch_91_46 : Sch := .one 0 (.all [(1, .all [(2, .all [(3, .done)])])])
def sch_91_48 : Sch := .one 0 (.one 1 (.one 2 (.one 3 (.all [(4, .all [(5, .all [(6, .all [(7, .done)])])])]))))
def sch_91_50 : Sch := .one 0 (.one 1 (.all [(2, .all [(3, .one 4 (.one 5 (.all [(6, .all [(7, .done)])])))])]))
def sch_96_4 : Sch := .one 0 (.one 1 (.one 2 (.one 3 (.one 4 (.one 5 (.one 6 (.all [(7, .one 8 (.one 9 (.one 10 (.one 11 (.one 12 (.one 13 (.one 14 (.one 15 (.one 16 (.one 17 (.one 18 (.one 19 (.all [(20, .one 21 (.one 22 (.one 23 (.one 24 (.one 25 (.one 26 (.one 27 (.one 29 (.all [(28, .one 30 (.one 31 (.done)))])))))))))])))))))))))))])))))))
def sch_97_4 : Sch := .one 0 (.one 1 (.one 2 (.one 3 (.one 4 (.one 5 (.one 6 (.one 7 (.one 8 (.one 9 (.one 10 (.one 11 (.one 12 (.one 13 (.one 14 (.one 15 (.one 16 (.one 17 (.one 18 (.one 19 (.one 20 (.one 21 (.one 22 (.one 23 (.one 24 (.done)))))))))))))))))))))))))
def sch_98_11 : Sch := .one 0 (.one 1 (.one 2 (.one 3 (.one 4 (.one 5 (.one 6 (.one 7 (.one 8 (.one 9 (.one 10 (.one 11 (.one 12 (.all [(13, .all [(14, .one 15 (.done))])])))))))))))))
def sch_98_19 : Sch := .one 0 (.one 1 (.one 2 (.one 3 (.one 4 (.one 5 (.one 6 (.done)))))))
def sch_101_1 : Sch := .one 1 (.one 2 (.one 3 (.all [(0, .all [(4, .one 5 (.one 6 (.one 7 (.all [(8, .all [(9, .one 10 (.done))])])))), (8, .all [(4, .one 5 (.one 6 (.one 7 (.all [(9, .one 10 (.done))]))))])]), (8, .all [(0, .all [(4, .one 5 (.one 6 (.one 7 (.all [(9, .one 10 (.done))]))))])])])))
def sch_101_3 : Sch := .one 0 (.all [(1, .all [(2, .all [(3, .done)])])])
def sch_101_5 : Sch := .one 0 (.all [(1, .all [(2, .all [(3, .done)])])])
def sch_101_11 : Sch := .one 0 (.all [(1, .all [(2, .all [(3, .done)])])])
def sch_101_12 : Sch := .one 0 (.one 1 (.one 2 (.one 3 (.one 4 (.all [(5, .one 6 (.done))])))))
def sch_101_13 : Sch := .one 0 (.one 1 (.one 2 (.one 3 (.one 4 (.one 5 (.one 6 (.one 7 (.one 8 (.one 9 (.one 10 (.one 11 (.one 12 (.one 13 (.one 14 (.one 15 (.one 16 (.one 17 (.done))))))))))))))))))
def sch_101_14 : Sch := .one 0 (.all [(1, .all [(2, .all [(3, .done)])])])
def sch_101_22 : Sch := .one 0 (.all [(1, .all [(2, .all [(3, .done)])])])
def sch_101_25 : Sch := .one 0 (.one 1 (.one 2 (.one 3 (.all [(4, .one 5 (.one 6 (.one 7 (.all [(8, .all [(9, .one 10 (.done))])])))), (8, .all [(4, .one 5 (.one 6 (.one 7 (.all [(9, .one 10 (.done))]))))])]))))
def sch_101_28 : Sch := .one 0 (.one 1 (.one 2 (.one 3 (.one 4 (.one 5 (.one 6 (.one 7 (.one 8 (.all [(9, .done)])))))))))
def sch_101_30 : Sch := .one 0 (.one 1 (.one 2 (.one 3 (.all [(4, .all [(5, .all [(6, .done)])]), (5, .one 4 (.all [(6, .done)]))]))))
def sch_103_6 : Sch := .one 0 (.one 1 (.one 2 (.one 3 (.one 4 (.one 5 (.one 6 (.one 7 (.one 8 (.done)))))))))
def sch_104_6 : Sch := .one 0 (.one 1 (.one 2 (.one 3 (.one 4 (.one 5 (.one 6 (.one 7 (.one 8 (.done)))))))))
def sch_105_6 : Sch := .one 0 (.one 1 (.one 2 (.one 3 (.one 4 (.one 5 (.one 6 (.one 7 (.one 8 (.done)))))))))
def sch_108_6 : Sch := .one 0 (.one 1 (.one 2 (.one 3 (.one 4 (.one 5 (.one 6 (.one 7 (.one 8 (.done)))))))))
def sch_109_6 : Sch := .one 0 (.one 1 (.one 2 (.one 3 (.one 4 (.one 5 (.one 6 (.one 7 (.all [(8, .one 9 (.done))]))))))))
def sch_110_6 : Sch := .one 0 (.one 1 (.one 2 (.one 3 (.one 4 (.one 5 (.one 6 (.one 7 (.all [(8, .one 9 (.done))]))))))))
def sch_113_12 : Sch := .one 0 (.one 1 (.one 2 (.one 4 (.one 5 (.one 6 (.one 7 (.all [(3, .one 8 (.one 9 (.one 10 (.done))))])))))))
def sch_120_4 : Sch := .one 0 (.all [(1, .all [(2, .all [(3, .done)])]), (2, .one 1 (.all [(3, .done)]))])
def sch_123_7 : Sch := .one 0 (.one 1 (.one 3 (.one 4 (.one 5 (.one 6 (.all [(2, .all [(7, .one 8 (.one 9 (.one 10 (.done))))]), (7, .one 8 (.all [(2, .one 9 (.one 10 (.done)))]))]))))))
def sch_125_5 : Sch := .one 0 (.one 1 (.one 3 (.one 4 (.one 5 (.all [(2, .one 6 (.one 7 (.one 8 (.done))))])))))
def sch_125_6 : Sch := .one 0 (.one 1 (.one 2 (.one 3 (.one 5 (.one 6 (.one 7 (.one 8 (.one 9 (.all [(4, .one 10 (.one 11 (.one 12 (.done))))])))))))))
def sch_139_5 : Sch := .one 0 (.one 1 (.one 2 (.one 3 (.one 4 (.one 5 (.one 6 (.one 7 (.one 8 (.one 9 (.all [(10, .one 11 (.done))]))))))))))
def sch_139_7 : Sch := .one 1 (.one 2 (.one 3 (.one 8 (.one 9 (.one 10 (.all [(0, .all [(4, .one 5 (.all [(6, .all [(7, .all [(11, .one 12 (.done))])])])), (5, .all [(4, .all [(6, .all [(7, .all [(11, .one 12 (.done))])])]), (6, .all [(4, .all [(7, .all [(11, .one 12 (.done))])])])])]), (5, .all [(0, .all [(4, .all [(6, .all [(7, .all [(11, .one 12 (.done))])])]), (6, .all [(4, .all [(7, .all [(11, .one 12 (.done))])])])]), (6, .all [(0, .all [(4, .all [(7, .all [(11, .one 12 (.done))])])])])])]))))))
def sch_144_6 : Sch := .one 1 (.one 2 (.one 3 (.one 5 (.one 6 (.one 7 (.one 8 (.all [(0, .all [(4, .all [(9, .one 10 (.one 11 (.done)))])])])))))))
def sch_145_7 : Sch := .one 1 (.one 2 (.one 3 (.one 8 (.one 9 (.one 10 (.all [(0, .all [(4, .one 5 (.all [(6, .all [(7, .all [(11, .one 12 (.done))])])])), (5, .all [(4, .all [(6, .all [(7, .all [(11, .one 12 (.done))])])]), (6, .all [(4, .all [(7, .all [(11, .one 12 (.done))])])])])]), (5, .all [(0, .all [(4, .all [(6, .all [(7, .all [(11, .one 12 (.done))])])]), (6, .all [(4, .all [(7, .all [(11, .one 12 (.done))])])])]), (6, .all [(0, .all [(4, .all [(7, .all [(11, .one 12 (.done))])])])])])]))))))
def sch_147_4 : Sch := .one 0 (.one 1 (.one 2 (.one 3 (.one 4 (.one 5 (.one 6 (.one 7 (.one 8 (.one 9 (.one 10 (.one 11 (.one 12 (.one 13 (.one 14 (.one 15 (.one 16 (.one 17 (.done))))))))))))))))))
def sch_148_4 : Sch := .one 1 (.one 2 (.one 3 (.one 4 (.one 6 (.one 8 (.one 9 (.all [(0, .all [(5, .one 7 (.one 10 (.all [(11, .one 12 (.all [(13, .done)]))]))), (7, .one 10 (.all [(5, .all [(11, .one 12 (.all [(13, .done)]))])]))]), (7, .one 10 (.all [(0, .all [(5, .all [(11, .one 12 (.all [(13, .done)]))])])]))])))))))
def sch_153_1 : Sch := .one 0 (.one 1 (.one 2 (.one 3 (.one 5 (.one 6 (.one 7 (.one 8 (.all [(4, .all [(9, .all [(10, .all [(11, .one 12 (.done))])])])]))))))))
def sch_155_2 : Sch := .one 0 (.one 1 (.one 2 (.one 3 (.one 4 (.one 5 (.done))))))
def sch_155_4 : Sch := .one 0 (.one 1 (.one 2 (.one 3 (.one 4 (.one 5 (.one 6 (.one 7 (.one 8 (.one 9 (.done))))))))))
def sch_155_6 : Sch := .one 0 (.one 1 (.one 2 (.one 3 (.one 4 (.one 5 (.one 6 (.one 7 (.one 8 (.one 9 (.done))))))))))
def sch_156_2 : Sch := .one 0 (.one 1 (.one 2 (.one 3 (.one 4 (.one 5 (.one 6 (.one 7 (.one 8 (.one 9 (.one 10 (.done)))))))))))
def sch_156_4 : Sch := .one 0 (.one 1 (.one 2 (.one 3 (.one 4 (.one 5 (.one 6 (.one 7 (.one 8 (.one 9 (.one 10 (.one 11 (.done))))))))))))
def sch_167_7 : Sch := .one 1 (.one 2 (.one 3 (.one 4 (.one 10 (.one 12 (.all [(0, .all [(5, .one 6 (.all [(7, .all [(8, .all [(9, .one 11 (.one 13 (.all [(14, .one 15 (.all [(16, .done)]))]))), (11, .one 13 (.all [(9, .all [(14, .one 15 (.all [(16, .done)]))])]))]), (11, .one 13 (.all [(8, .all [(9, .all [(14, .one 15 (.all [(16, .done)]))])])]))]), (11, .one 13 (.all [(7, .all [(8, .all [(9, .all [(14, .one 15 (.all [(16, .done)]))])])])]))])), (6, .all [(5, .all [(7, .all [(8, .all [(9, .one 11 (.one 13 (.all [(14, .one 15 (.all [(16, .done)]))]))), (11, .one 13 (.all [(9, .all [(14, .one 15 (.all [(16, .done)]))])]))]), (11, .one 13 (.all [(8, .all [(9, .all [(14, .one 15 (.all [(16, .done)]))])])]))]), (11, .one 13 (.all [(7, .all [(8, .all [(9, .all [(14, .one 15 (.all [(16, .done)]))])])])]))]), (11, .one 13 (.all [(5, .all [(7, .all [(8, .all [(9, .all [(14, .one 15 (.all [(16, .done)]))])])])])]))]), (11, .one 13 (.all [(5, .one 6 (.all [(7, .all [(8, .all [(9, .all [(14, .one 15 (.all [(16, .done)]))])])])])), (6, .all [(5, .all [(7, .all [(8, .all [(9, .all [(14, .one 15 (.all [(16, .done)]))])])])])])]))]), (6, .all [(0, .all [(5, .all [(7, .all [(8, .all [(9, .one 11 (.one 13 (.all [(14, .one 15 (.all [(16, .done)]))]))), (11, .one 13 (.all [(9, .all [(14, .one 15 (.all [(16, .done)]))])]))]), (11, .one 13 (.all [(8, .all [(9, .all [(14, .one 15 (.all [(16, .done)]))])])]))]), (11, .one 13 (.all [(7, .all [(8, .all [(9, .all [(14, .one 15 (.all [(16, .done)]))])])])]))]), (11, .one 13 (.all [(5, .all [(7, .all [(8, .all [(9, .all [(14, .one 15 (.all [(16, .done)]))])])])])]))]), (11, .one 13 (.all [(0, .all [(5, .all [(7, .all [(8, .all [(9, .all [(14, .one 15 (.all [(16, .done)]))])])])])])]))]), (11, .one 13 (.all [(0, .all [(5, .one 6 (.all [(7, .all [(8, .all [(9, .all [(14, .one 15 (.all [(16, .done)]))])])])])), (6, .all [(5, .all [(7, .all [(8, .all [(9, .all [(14, .one 15 (.all [(16, .done)]))])])])])])]), (6, .all [(0, .all [(5, .all [(7, .all [(8, .all [(9, .all [(14, .one 15 (.all [(16, .done)]))])])])])])])]))]))))))
def sch_168_5 : Sch := .one 0 (.one 1 (.one 2 (.one 3 (.one 4 (.one 5 (.one 6 (.all [(7, .all [(8, .all [(9, .one 10 (.all [(11, .done)]))])])])))))))
def sch_172_6 : Sch := .one 1 (.one 2 (.one 3 (.one 5 (.one 8 (.one 9 (.one 10 (.all [(0, .all [(4, .all [(6, .all [(7, .all [(11, .one 12 (.done))])])]), (6, .all [(4, .all [(7, .all [(11, .one 12 (.done))])])])]), (6, .all [(0, .all [(4, .all [(7, .all [(11, .one 12 (.done))])])])])])))))))
def sch_174_4 : Sch := .one 0 (.one 1 (.one 2 (.one 3 (.one 4 (.one 5 (.one 6 (.one 7 (.one 8 (.one 9 (.one 10 (.one 11 (.one 12 (.one 13 (.one 14 (.one 15 (.done))))))))))))))))
def sch_175_5 : Sch := .one 0 (.one 1 (.one 2 (.one 3 (.one 4 (.one 5 (.one 6 (.one 7 (.one 8 (.one 9 (.one 10 (.one 11 (.one 12 (.one 13 (.one 14 (.one 15 (.one 16 (.one 17 (.one 18 (.all [(19, .one 20 (.one 21 (.done)))])))))))))))))))))))
def sch_184_1 : Sch := .one 0 (.one 1 (.one 2 (.one 3 (.one 5 (.all [(4, .all [(6, .all [(7, .all [(8, .done)])])]), (6, .one 4 (.all [(7, .all [(8, .done)])]))])))))
def sch_186_1 : Sch := .one 0 (.one 1 (.one 2 (.one 3 (.one 4 (.one 5 (.one 6 (.one 7 (.one 8 (.one 9 (.all [(10, .one 11 (.one 12 (.done)))]))))))))))
def sch_189_1 : Sch := .one 0 (.one 1 (.one 2 (.one 3 (.one 4 (.one 5 (.one 6 (.one 7 (.one 8 (.one 9 (.one 10 (.one 11 (.one 12 (.one 13 (.one 14 (.one 15 (.all [(16, .done)]))))))))))))))))
def sch_190_1 : Sch := .one 0 (.one 1 (.one 2 (.one 3 (.one 4 (.one 5 (.one 6 (.one 7 (.all [(8, .one 9 (.one 10 (.one 11 (.all [(12, .all [(13, .one 14 (.done))])])))), (12, .all [(8, .one 9 (.one 10 (.one 11 (.all [(13, .one 14 (.done))]))))])]))))))))
def sch_191_1 : Sch := .one 0 (.one 1 (.one 2 (.one 3 (.one 4 (.one 5 (.one 6 (.one 7 (.one 8 (.one 9 (.one 10 (.one 11 (.one 12 (.one 13 (.one 14 (.all [(15, .done)])))))))))))))))
def sch_192_1 : Sch := .one 0 (.one 1 (.one 2 (.one 3 (.one 4 (.one 5 (.one 6 (.one 7 (.one 8 (.one 9 (.one 10 (.one 11 (.one 12 (.one 13 (.one 14 (.one 15 (.one 16 (.one 17 (.all [(18, .one 19 (.one 20 (.one 21 (.one 22 (.one 23 (.done))))))]))))))))))))))))))
def sch_196_1 : Sch := .one 0 (.one 1 (.one 2 (.one 3 (.one 5 (.one 7 (.all [(4, .all [(6, .all [(8, .one 9 (.one 10 (.one 11 (.one 12 (.one 13 (.done))))))])]), (6, .one 4 (.all [(8, .one 9 (.one 10 (.one 11 (.one 12 (.one 13 (.done))))))]))]))))))
def sch_201_1 : Sch := .one 0 (.one 1 (.one 2 (.one 3 (.one 4 (.one 5 (.one 6 (.one 7 (.one 8 (.one 9 (.one 10 (.one 11 (.one 12 (.one 13 (.one 14 (.one 15 (.one 16 (.all [(17, .all [(18, .all [(19, .done)])])])))))))))))))))))
def sch_204_1 : Sch := .one 0 (.one 1 (.one 2 (.one 3 (.one 4 (.one 5 (.one 6 (.one 7 (.one 8 (.one 9 (.one 10 (.one 11 (.one 12 (.one 13 (.one 14 (.one 15 (.one 16 (.one 17 (.all [(18, .one 19 (.one 20 (.one 21 (.all [(22, .done)]))))]))))))))))))))))))
def sch_206_1 : Sch := .one 0 (.one 1 (.one 2 (.one 3 (.one 4 (.one 5 (.one 6 (.one 7 (.one 8 (.one 9 (.one 10 (.one 11 (.one 12 (.one 13 (.one 14 (.one 15 (.one 16 (.all [(17, .one 18 (.one 19 (.one 20 (.one 21 (.one 22 (.done))))))])))))))))))))))))
def sch_208_1 : Sch := .one 0 (.one 1 (.one 2 (.one 3 (.one 4 (.one 5 (.one 6 (.one 7 (.one 8 (.one 9 (.one 10 (.one 11 (.one 12 (.one 13 (.one 14 (.one 15 (.one 16 (.all [(17, .one 18 (.one 19 (.one 20 (.one 21 (.one 22 (.done))))))])))))))))))))))))
def sch_210_1 : Sch := .one 0 (.one 1 (.one 2 (.one 3 (.one 4 (.one 5 (.one 6 (.one 7 (.one 8 (.one 9 (.all [(10, .one 11 (.one 12 (.one 13 (.one 14 (.one 15 (.one 16 (.one 17 (.done))))))))]))))))))))
def sch_212_1 : Sch := .one 0 (.one 1 (.one 2 (.one 3 (.one 4 (.one 5 (.one 6 (.one 7 (.one 8 (.one 9 (.all [(10, .one 11 (.one 12 (.one 13 (.one 14 (.one 15 (.done))))))]))))))))))
def sch_216_1 : Sch := .one 0 (.one 1 (.one 2 (.one 3 (.one 4 (.one 5 (.one 6 (.one 7 (.one 8 (.one 9 (.one 10 (.all [(11, .all [(12, .all [(13, .done)])])])))))))))))
def sch_219_1 : Sch := .one 0 (.one 1 (.one 2 (.one 3 (.one 5 (.all [(4, .all [(6, .all [(7, .all [(8, .all [(9, .done)])])])]), (6, .one 4 (.all [(7, .all [(8, .all [(9, .done)])])]))])))))
def sch_221_1 : Sch := .one 0 (.one 1 (.one 2 (.one 3 (.one 4 (.one 5 (.one 6 (.one 7 (.one 8 (.one 9 (.all [(10, .one 11 (.one 12 (.one 13 (.all [(14, .all [(15, .one 16 (.done))])])))), (14, .all [(10, .one 11 (.one 12 (.one 13 (.all [(15, .one 16 (.done))]))))])]))))))))))
def sch_222_1 : Sch := .one 0 (.one 1 (.one 2 (.one 3 (.one 5 (.all [(4, .all [(6, .all [(7, .all [(8, .all [(9, .done)])])])]), (6, .one 4 (.all [(7, .all [(8, .all [(9, .done)])])]))])))))
def sch_224_1 : Sch := .one 0 (.one 1 (.one 2 (.one 3 (.one 5 (.all [(4, .all [(6, .all [(7, .all [(8, .all [(9, .done)])])])]), (6, .one 4 (.all [(7, .all [(8, .all [(9, .done)])])]))])))))
def sch_227_1 : Sch := .one 0 (.one 1 (.one 2 (.one 3 (.one 4 (.one 5 (.one 6 (.one 7 (.one 8 (.one 9 (.one 10 (.one 11 (.one 12 (.all [(13, .one 14 (.one 15 (.one 16 (.one 17 (.one 18 (.one 19 (.one 20 (.done))))))))])))))))))))))
def sch_228_2 : Sch := .one 0 (.one 1 (.one 2 (.one 3 (.one 4 (.one 5 (.one 6 (.one 7 (.one 8 (.one 9 (.one 10 (.all [(11, .one 12 (.done))])))))))))))
def sch_230_1 : Sch := .one 0 (.one 1 (.one 2 (.one 3 (.one 4 (.one 5 (.one 6 (.one 7 (.one 8 (.one 9 (.one 10 (.all [(11, .one 12 (.one 13 (.one 14 (.one 15 (.one 16 (.done))))))])))))))))))
def sch_232_1 : Sch := .one 0 (.one 1 (.one 2 (.one 3 (.one 4 (.one 5 (.one 6 (.one 7 (.one 8 (.one 9 (.one 10 (.all [(11, .one 12 (.done))])))))))))))
def sch_234_1 : Sch := .one 0 (.one 1 (.one 2 (.one 3 (.one 4 (.one 5 (.one 6 (.one 7 (.one 8 (.one 9 (.one 10 (.all [(11, .one 12 (.done))])))))))))))
def sch_236_1 : Sch := .one 0 (.one 1 (.one 2 (.one 3 (.one 4 (.one 5 (.one 6 (.one 7 (.one 8 (.one 9 (.one 10 (.one 11 (.one 12 (.one 13 (.one 14 (.one 15 (.one 16 (.all [(17, .all [(18, .all [(19, .done)])])])))))))))))))))))
def sch_239_1 : Sch := .one 0 (.one 1 (.one 2 (.one 3 (.one 4 (.one 5 (.one 6 (.one 7 (.one 8 (.one 9 (.one 10 (.one 11 (.one 12 (.one 13 (.one 14 (.one 15 (.one 16 (.all [(17, .all [(18, .all [(19, .done)])])])))))))))))))))))
def sch_242_1 : Sch := .one 0 (.one 1 (.one 2 (.one 3 (.one 4 (.one 5 (.one 6 (.one 7 (.one 8 (.one 9 (.one 10 (.one 11 (.one 12 (.all [(13, .one 14 (.one 15 (.one 16 (.one 17 (.one 18 (.one 19 (.one 20 (.done))))))))])))))))))))))
def sch_243_1 : Sch := .one 0 (.one 1 (.one 2 (.one 3 (.one 4 (.one 5 (.one 6 (.one 7 (.one 8 (.one 9 (.one 10 (.all [(11, .one 12 (.one 13 (.one 14 (.one 15 (.one 16 (.done))))))])))))))))))
def sch_247_1 : Sch := .one 0 (.one 1 (.one 2 (.one 3 (.one 4 (.one 5 (.one 6 (.one 7 (.one 8 (.one 9 (.one 10 (.all [(11, .one 12 (.one 13 (.all [(14, .all [(15, .done)])])))])))))))))))
def sch_248_1 : Sch := .one 0 (.one 1 (.one 2 (.one 3 (.one 4 (.one 5 (.one 6 (.one 7 (.one 8 (.one 9 (.one 10 (.all [(11, .one 12 (.one 13 (.one 14 (.one 15 (.one 16 (.done))))))])))))))))))
def sch_255_3 : Sch := .one 0 (.one 1 (.one 2 (.one 3 (.one 4 (.one 5 (.one 6 (.one 7 (.all [(8, .all [(9, .done)])]))))))))
def sch_256_5 : Sch := .one 0 (.one 1 (.one 2 (.one 3 (.one 4 (.one 5 (.one 6 (.one 7 (.one 8 (.one 9 (.one 10 (.all [(11, .all [(12, .done)])])))))))))))
def sch_258_3 : Sch := .one 0 (.one 1 (.one 2 (.one 3 (.one 4 (.one 5 (.one 6 (.one 7 (.one 8 (.one 9 (.one 10 (.one 11 (.one 12 (.all [(13, .all [(14, .done)])])))))))))))))
def sch_259_5 : Sch := .one 0 (.one 1 (.one 2 (.one 3 (.one 4 (.one 5 (.one 6 (.one 7 (.one 8 (.one 9 (.one 10 (.all [(11, .one 12 (.one 13 (.one 14 (.one 15 (.one 16 (.all [(17, .done)]))))))])))))))))))
def sch_261_3 : Sch := .one 0 (.one 1 (.one 2 (.one 3 (.one 4 (.one 5 (.one 6 (.one 7 (.one 8 (.one 9 (.one 10 (.all [(11, .one 12 (.one 13 (.one 14 (.one 15 (.one 16 (.all [(17, .done)]))))))])))))))))))
def sch_262_1 : Sch := .one 0 (.one 1 (.one 2 (.one 3 (.one 4 (.one 5 (.one 6 (.one 7 (.one 8 (.one 9 (.all [(10, .all [(11, .all [(12, .done)])])]))))))))))
def sch_274_1 : Sch := .one 0 (.one 1 (.one 3 (.all [(2, .one 4 (.all [(5, .one 6 (.done))]))])))
def sch_275_1 : Sch := .one 0 (.one 1 (.one 3 (.all [(2, .one 4 (.all [(5, .one 6 (.done))]))])))
def sch_279_9 : Sch := .one 0 (.one 1 (.one 2 (.all [(3, .all [(4, .all [(5, .one 6 (.all [(7, .done)]))])])])))
def sch_280_1 : Sch := .one 0 (.one 1 (.one 2 (.one 3 (.one 4 (.one 5 (.one 6 (.one 7 (.one 8 (.one 9 (.one 10 (.all [(11, .one 12 (.one 13 (.one 14 (.one 15 (.one 16 (.done))))))])))))))))))
def sch_282_1 : Sch := .one 0 (.one 1 (.one 2 (.one 3 (.one 4 (.one 5 (.all [(6, .one 7 (.one 8 (.one 9 (.one 10 (.one 11 (.one 12 (.one 13 (.done))))))))]))))))
def sch_283_5 : Sch := .one 0 (.one 1 (.one 3 (.one 4 (.one 5 (.all [(2, .one 6 (.one 7 (.one 8 (.done))))])))))
def sch_283_6 : Sch := .one 0 (.one 1 (.one 2 (.one 4 (.one 5 (.one 6 (.one 7 (.all [(3, .one 8 (.one 9 (.one 10 (.done))))])))))))
def sch_284_3 : Sch := .one 0 (.one 1 (.one 2 (.one 3 (.one 4 (.one 5 (.one 6 (.one 7 (.one 8 (.one 9 (.one 10 (.one 11 (.one 12 (.all [(13, .one 14 (.all [(15, .done)]))])))))))))))))
def sch_289_5 : Sch := .one 0 (.one 1 (.one 2 (.one 3 (.one 4 (.one 5 (.all [(6, .one 7 (.done))]))))))
def sch_292_5 : Sch := .one 0 (.one 1 (.one 2 (.one 3 (.one 4 (.one 5 (.all [(6, .one 7 (.done))]))))))
def sch_293_5 : Sch := .one 0 (.one 1 (.one 2 (.one 3 (.one 4 (.one 5 (.all [(6, .one 7 (.done))]))))))
def sch_294_12 : Sch := .one 0 (.one 1 (.one 2 (.one 3 (.one 4 (.one 5 (.one 6 (.one 7 (.one 8 (.one 9 (.one 10 (.one 11 (.one 12 (.one 13 (.one 14 (.one 15 (.one 16 (.one 17 (.one 18 (.done)))))))))))))))))))
def sch_302_7 : Sch := .one 0 (.one 1 (.one 2 (.one 3 (.one 4 (.one 5 (.one 6 (.one 7 (.one 8 (.one 9 (.one 10 (.one 11 (.all [(12, .one 13 (.all [(14, .done)]))]))))))))))))
def sch_302_8 : Sch := .one 0 (.one 1 (.one 2 (.one 3 (.one 4 (.one 5 (.one 6 (.one 7 (.one 8 (.one 9 (.one 10 (.one 11 (.all [(12, .one 13 (.all [(14, .done)]))]))))))))))))
def sch_302_9 : Sch := .one 0 (.one 1 (.one 2 (.one 3 (.one 4 (.one 5 (.one 6 (.one 7 (.one 8 (.one 9 (.one 10 (.one 11 (.all [(12, .one 13 (.all [(14, .done)]))]))))))))))))
def sch_302_10 : Sch := .one 0 (.one 1 (.one 2 (.one 3 (.one 4 (.one 5 (.one 6 (.one 7 (.one 8 (.one 9 (.one 10 (.one 11 (.all [(12, .one 13 (.all [(14, .done)]))]))))))))))))
def sch_302_17 : Sch := .one 0 (.one 1 (.one 2 (.one 3 (.one 4 (.one 5 (.one 6 (.one 7 (.one 8 (.one 9 (.one 10 (.one 11 (.all [(12, .one 13 (.all [(14, .done)]))]))))))))))))
def sch_302_18 : Sch := .one 0 (.one 1 (.one 2 (.one 3 (.one 4 (.one 5 (.one 6 (.one 7 (.one 8 (.one 9 (.one 10 (.one 11 (.all [(12, .one 13 (.all [(14, .done)]))]))))))))))))
def sch_302_23 : Sch := .one 0 (.one 1 (.one 2 (.one 3 (.one 4 (.one 5 (.one 6 (.one 7 (.one 8 (.one 9 (.one 10 (.one 11 (.all [(12, .one 13 (.all [(14, .done)]))]))))))))))))
def sch_306_11 : Sch := .one 0 (.one 1 (.one 2 (.one 3 (.one 4 (.one 5 (.one 6 (.one 7 (.all [(8, .done)]))))))))
def sch_306_15 : Sch := .one 0 (.one 1 (.one 2 (.one 3 (.one 4 (.one 5 (.one 6 (.one 7 (.all [(8, .done)]))))))))
def sch_308_6 : Sch := .one 0 (.one 1 (.one 2 (.one 3 (.one 4 (.one 5 (.one 6 (.one 7 (.one 8 (.one 9 (.done))))))))))
def sch_308_11 : Sch := .one 0 (.one 1 (.one 2 (.one 3 (.one 4 (.one 5 (.one 6 (.one 7 (.one 8 (.one 9 (.done))))))))))
def sch_322_17 : Sch := .one 0 (.one 1 (.one 2 (.one 3 (.one 4 (.one 5 (.one 6 (.one 7 (.one 8 (.one 9 (.one 10 (.one 11 (.one 12 (.all [(13, .one 14 (.one 15 (.one 16 (.done))))])))))))))))))
def sch_326_17 : Sch := .one 0 (.one 1 (.one 2 (.one 3 (.one 4 (.one 5 (.one 6 (.one 7 (.one 8 (.one 9 (.one 10 (.one 11 (.all [(12, .one 13 (.one 14 (.done)))]))))))))))))
def sch_327_17 : Sch := .one 0 (.one 1 (.one 2 (.one 3 (.one 4 (.one 5 (.one 6 (.one 7 (.one 8 (.one 9 (.one 10 (.one 11 (.one 12 (.all [(13, .one 14 (.one 15 (.one 16 (.done))))])))))))))))))
def sch_328_17 : Sch := .one 0 (.one 1 (.one 2 (.one 3 (.one 4 (.one 5 (.one 6 (.one 7 (.one 8 (.one 9 (.one 10 (.one 11 (.one 12 (.all [(13, .one 14 (.one 15 (.one 16 (.done))))])))))))))))))
def sch_331_4 : Sch := .one 0 (.one 1 (.one 2 (.one 3 (.one 4 (.one 5 (.one 6 (.one 7 (.one 8 (.one 9 (.one 10 (.one 11 (.one 12 (.one 13 (.all [(14, .one 15 (.one 16 (.done)))]))))))))))))))
def sch_331_6 : Sch := .one 0 (.one 1 (.one 2 (.one 3 (.one 4 (.one 5 (.one 6 (.one 7 (.one 8 (.one 9 (.one 10 (.one 11 (.one 12 (.one 13 (.one 14 (.all [(15, .one 16 (.all [(17, .done)]))])))))))))))))))
def sch_332_10 : Sch := .one 0 (.one 1 (.one 2 (.one 3 (.one 4 (.one 5 (.one 6 (.one 7 (.one 8 (.one 9 (.one 10 (.one 11 (.one 12 (.one 13 (.one 14 (.one 15 (.one 16 (.all [(17, .one 18 (.all [(19, .done)]))])))))))))))))))))
def sch_333_10 : Sch := .one 0 (.one 1 (.one 2 (.one 3 (.one 4 (.one 5 (.one 6 (.one 7 (.one 8 (.one 9 (.one 10 (.one 11 (.one 12 (.one 13 (.one 14 (.one 15 (.one 16 (.all [(17, .one 18 (.all [(19, .done)]))])))))))))))))))))
def sch_335_3 : Sch := .one 0 (.one 1 (.one 2 (.one 3 (.one 4 (.one 5 (.one 6 (.one 7 (.one 8 (.one 9 (.one 10 (.one 11 (.one 12 (.all [(13, .one 14 (.all [(15, .done)]))])))))))))))))
def sch_336_5 : Sch := .one 0 (.one 1 (.one 2 (.one 3 (.one 4 (.one 5 (.one 6 (.one 7 (.one 8 (.one 9 (.one 10 (.one 11 (.one 12 (.one 13 (.all [(14, .one 15 (.one 16 (.one 17 (.done))))]))))))))))))))
def sch_336_11 : Sch := .one 0 (.one 1 (.one 2 (.one 3 (.one 4 (.one 5 (.one 6 (.one 7 (.one 8 (.one 9 (.one 10 (.one 11 (.one 12 (.one 13 (.one 14 (.all [(15, .one 16 (.all [(17, .done)]))])))))))))))))))
def sch_336_16 : Sch := .one 0 (.one 1 (.one 2 (.one 3 (.one 4 (.one 5 (.one 6 (.one 7 (.one 8 (.one 9 (.all [(10, .one 11 (.one 12 (.done)))]))))))))))
def sch_336_17 : Sch := .one 0 (.one 1 (.one 2 (.one 3 (.one 4 (.one 5 (.one 6 (.one 7 (.one 8 (.one 9 (.one 10 (.one 11 (.one 12 (.one 13 (.one 14 (.all [(15, .one 16 (.all [(17, .done)]))])))))))))))))))
def sch_336_22 : Sch := .one 0 (.one 1 (.one 2 (.one 3 (.one 4 (.one 5 (.one 6 (.one 7 (.one 8 (.one 9 (.all [(10, .one 11 (.one 12 (.done)))]))))))))))
def sch_336_23 : Sch := .one 0 (.one 1 (.one 2 (.one 3 (.one 4 (.one 5 (.one 6 (.one 7 (.one 8 (.one 9 (.one 10 (.one 11 (.one 12 (.one 13 (.one 14 (.all [(15, .one 16 (.all [(17, .done)]))])))))))))))))))
def sch_337_1 : Sch := .one 0 (.one 1 (.one 2 (.one 3 (.one 4 (.one 5 (.one 6 (.one 7 (.one 8 (.one 9 (.one 10 (.one 11 (.one 12 (.all [(13, .one 14 (.all [(15, .done)]))])))))))))))))
def sch_337_3 : Sch := .one 0 (.one 1 (.one 2 (.one 3 (.one 4 (.one 5 (.one 6 (.one 7 (.one 8 (.one 9 (.one 10 (.one 11 (.one 12 (.all [(13, .one 14 (.one 15 (.one 16 (.done))))])))))))))))))
def sch_337_5 : Sch := .one 0 (.one 1 (.one 2 (.one 3 (.one 4 (.one 5 (.one 6 (.one 7 (.one 8 (.one 9 (.one 10 (.one 11 (.one 12 (.all [(13, .one 14 (.one 15 (.done)))])))))))))))))
def sch_337_8 : Sch := .one 0 (.one 1 (.one 2 (.one 3 (.one 4 (.one 5 (.one 6 (.one 7 (.one 8 (.one 9 (.one 10 (.one 11 (.one 12 (.all [(13, .one 14 (.all [(15, .done)]))])))))))))))))
def sch_338_1 : Sch := .one 0 (.one 1 (.one 2 (.one 3 (.one 4 (.one 5 (.one 6 (.one 7 (.one 8 (.one 9 (.one 10 (.one 11 (.one 12 (.all [(13, .one 14 (.all [(15, .done)]))])))))))))))))
def sch_338_3 : Sch := .one 0 (.one 1 (.one 2 (.one 3 (.one 4 (.one 5 (.one 6 (.one 7 (.one 8 (.one 9 (.one 10 (.one 11 (.one 12 (.all [(13, .one 14 (.one 15 (.done)))])))))))))))))
def sch_338_5 : Sch := .one 0 (.one 1 (.one 2 (.one 3 (.one 4 (.one 5 (.one 6 (.one 7 (.one 8 (.one 9 (.one 10 (.one 11 (.one 12 (.all [(13, .one 14 (.one 15 (.one 16 (.done))))])))))))))))))
def sch_338_8 : Sch := .one 0 (.one 1 (.one 2 (.one 3 (.one 4 (.one 5 (.one 6 (.one 7 (.one 8 (.one 9 (.one 10 (.one 11 (.one 12 (.all [(13, .one 14 (.all [(15, .done)]))])))))))))))))
def sch_338_10 : Sch := .one 0 (.one 1 (.one 2 (.one 3 (.one 4 (.one 5 (.one 6 (.one 7 (.one 8 (.one 9 (.one 10 (.one 11 (.one 12 (.all [(13, .one 14 (.all [(15, .done)]))])))))))))))))
def sch_338_13 : Sch := .one 0 (.one 1 (.one 2 (.one 3 (.one 4 (.one 5 (.one 6 (.one 7 (.one 8 (.one 9 (.one 10 (.one 11 (.one 12 (.all [(13, .one 14 (.one 15 (.done)))])))))))))))))
def sch_338_15 : Sch := .one 0 (.one 1 (.one 2 (.one 3 (.one 4 (.one 5 (.one 6 (.one 7 (.one 8 (.one 9 (.one 10 (.one 11 (.one 12 (.all [(13, .one 14 (.one 15 (.one 16 (.done))))])))))))))))))
def sch_338_18 : Sch := .one 0 (.one 1 (.one 2 (.one 3 (.one 4 (.one 5 (.one 6 (.one 7 (.one 8 (.one 9 (.one 10 (.one 11 (.one 12 (.all [(13, .one 14 (.all [(15, .done)]))])))))))))))))
def sch_338_21 : Sch := .one 0 (.one 1 (.one 2 (.one 3 (.one 4 (.one 5 (.one 6 (.one 7 (.one 8 (.one 9 (.one 10 (.one 11 (.one 12 (.all [(13, .one 14 (.all [(15, .done)]))])))))))))))))
def sch_341_4 : Sch := .one 0 (.one 1 (.one 2 (.one 3 (.one 4 (.one 5 (.one 6 (.one 7 (.one 8 (.one 9 (.one 10 (.one 11 (.one 12 (.all [(13, .one 14 (.done))])))))))))))))
def sch_341_6 : Sch := .one 0 (.one 1 (.one 2 (.one 3 (.one 4 (.one 5 (.one 6 (.one 7 (.one 8 (.one 9 (.one 10 (.one 11 (.one 12 (.one 13 (.one 14 (.all [(15, .one 16 (.all [(17, .done)]))])))))))))))))))
def sch_342_10 : Sch := .one 0 (.one 1 (.one 2 (.one 3 (.one 4 (.one 5 (.one 6 (.one 7 (.one 8 (.one 9 (.one 10 (.one 11 (.one 12 (.one 13 (.one 14 (.one 15 (.one 16 (.all [(17, .one 18 (.all [(19, .done)]))])))))))))))))))))
def sch_343_10 : Sch := .one 0 (.one 1 (.one 2 (.one 3 (.one 4 (.one 5 (.one 6 (.one 7 (.one 8 (.one 9 (.one 10 (.one 11 (.one 12 (.one 13 (.one 14 (.one 15 (.one 16 (.all [(17, .one 18 (.all [(19, .done)]))])))))))))))))))))
def sch_345_3 : Sch := .one 0 (.one 1 (.one 2 (.one 3 (.one 4 (.one 5 (.one 6 (.one 7 (.one 8 (.one 9 (.one 10 (.one 11 (.one 12 (.all [(13, .one 14 (.all [(15, .done)]))])))))))))))))
def sch_346_5 : Sch := .one 0 (.one 1 (.one 2 (.one 3 (.one 4 (.one 5 (.one 6 (.one 7 (.one 8 (.one 9 (.one 10 (.one 11 (.one 12 (.all [(13, .one 14 (.one 15 (.done)))])))))))))))))
def sch_346_11 : Sch := .one 0 (.one 1 (.one 2 (.one 3 (.one 4 (.one 5 (.one 6 (.one 7 (.one 8 (.one 9 (.one 10 (.one 11 (.one 12 (.one 13 (.one 14 (.all [(15, .one 16 (.all [(17, .done)]))])))))))))))))))
def sch_346_16 : Sch := .one 0 (.one 1 (.one 2 (.one 3 (.one 4 (.one 5 (.one 6 (.one 7 (.one 8 (.all [(9, .one 10 (.done))])))))))))
def sch_346_17 : Sch := .one 0 (.one 1 (.one 2 (.one 3 (.one 4 (.one 5 (.one 6 (.one 7 (.one 8 (.one 9 (.one 10 (.one 11 (.one 12 (.one 13 (.one 14 (.all [(15, .one 16 (.all [(17, .done)]))])))))))))))))))
def sch_346_22 : Sch := .one 0 (.one 1 (.one 2 (.one 3 (.one 4 (.one 5 (.one 6 (.one 7 (.one 8 (.all [(9, .one 10 (.done))])))))))))
def sch_346_23 : Sch := .one 0 (.one 1 (.one 2 (.one 3 (.one 4 (.one 5 (.one 6 (.one 7 (.one 8 (.one 9 (.one 10 (.one 11 (.one 12 (.one 13 (.one 14 (.all [(15, .one 16 (.all [(17, .done)]))])))))))))))))))
def sch_348_1 : Sch := .one 0 (.one 1 (.one 2 (.one 3 (.one 4 (.one 5 (.one 6 (.one 7 (.one 8 (.one 9 (.one 10 (.one 11 (.one 12 (.all [(13, .one 14 (.all [(15, .done)]))])))))))))))))
def sch_348_3 : Sch := .one 0 (.one 1 (.one 2 (.one 3 (.one 4 (.one 5 (.one 6 (.one 7 (.one 8 (.one 9 (.one 10 (.one 11 (.all [(12, .one 13 (.one 14 (.done)))]))))))))))))
def sch_348_5 : Sch := .one 0 (.one 1 (.one 2 (.one 3 (.one 4 (.one 5 (.one 6 (.one 7 (.one 8 (.one 9 (.one 10 (.one 11 (.all [(12, .one 13 (.done))]))))))))))))
def sch_348_8 : Sch := .one 0 (.one 1 (.one 2 (.one 3 (.one 4 (.one 5 (.one 6 (.one 7 (.one 8 (.one 9 (.one 10 (.one 11 (.one 12 (.all [(13, .one 14 (.all [(15, .done)]))])))))))))))))
def sch_349_1 : Sch := .one 0 (.one 1 (.one 2 (.one 3 (.one 4 (.one 5 (.one 6 (.one 7 (.one 8 (.one 9 (.one 10 (.one 11 (.one 12 (.all [(13, .one 14 (.all [(15, .done)]))])))))))))))))
def sch_349_3 : Sch := .one 0 (.one 1 (.one 2 (.one 3 (.one 4 (.one 5 (.one 6 (.one 7 (.one 8 (.one 9 (.one 10 (.one 11 (.all [(12, .one 13 (.done))]))))))))))))
def sch_349_5 : Sch := .one 0 (.one 1 (.one 2 (.one 3 (.one 4 (.one 5 (.one 6 (.one 7 (.one 8 (.one 9 (.one 10 (.one 11 (.all [(12, .one 13 (.one 14 (.done)))]))))))))))))
def sch_349_8 : Sch := .one 0 (.one 1 (.one 2 (.one 3 (.one 4 (.one 5 (.one 6 (.one 7 (.one 8 (.one 9 (.one 10 (.one 11 (.one 12 (.all [(13, .one 14 (.all [(15, .done)]))])))))))))))))
def sch_349_10 : Sch := .one 0 (.one 1 (.one 2 (.one 3 (.one 4 (.one 5 (.one 6 (.one 7 (.one 8 (.one 9 (.one 10 (.one 11 (.one 12 (.all [(13, .one 14 (.all [(15, .done)]))])))))))))))))
def sch_349_13 : Sch := .one 0 (.one 1 (.one 2 (.one 3 (.one 4 (.one 5 (.one 6 (.one 7 (.one 8 (.one 9 (.one 10 (.one 11 (.all [(12, .one 13 (.done))]))))))))))))
def sch_349_15 : Sch := .one 0 (.one 1 (.one 2 (.one 3 (.one 4 (.one 5 (.one 6 (.one 7 (.one 8 (.one 9 (.one 10 (.one 11 (.all [(12, .one 13 (.one 14 (.done)))]))))))))))))
def sch_349_18 : Sch := .one 0 (.one 1 (.one 2 (.one 3 (.one 4 (.one 5 (.one 6 (.one 7 (.one 8 (.one 9 (.one 10 (.one 11 (.one 12 (.all [(13, .one 14 (.all [(15, .done)]))])))))))))))))
def sch_349_21 : Sch := .one 0 (.one 1 (.one 2 (.one 3 (.one 4 (.one 5 (.one 6 (.one 7 (.one 8 (.one 9 (.one 10 (.one 11 (.one 12 (.all [(13, .one 14 (.all [(15, .done)]))])))))))))))))
def sch_350_4 : Sch := .one 0 (.one 1 (.one 2 (.one 3 (.one 4 (.one 5 (.one 6 (.one 7 (.one 8 (.one 9 (.one 10 (.one 11 (.one 12 (.one 13 (.all [(14, .one 15 (.one 16 (.done)))]))))))))))))))
def sch_350_6 : Sch := .one 0 (.one 1 (.one 2 (.one 3 (.one 4 (.one 5 (.one 6 (.one 7 (.one 8 (.one 9 (.one 10 (.one 11 (.one 12 (.one 13 (.one 14 (.all [(15, .one 16 (.all [(17, .done)]))])))))))))))))))
def sch_351_10 : Sch := .one 0 (.one 1 (.one 2 (.one 3 (.one 4 (.one 5 (.one 6 (.one 7 (.one 8 (.one 9 (.one 10 (.one 11 (.one 12 (.one 13 (.one 14 (.one 15 (.one 16 (.all [(17, .one 18 (.all [(19, .done)]))])))))))))))))))))
def sch_352_10 : Sch := .one 0 (.one 1 (.one 2 (.one 3 (.one 4 (.one 5 (.one 6 (.one 7 (.one 8 (.one 9 (.one 10 (.one 11 (.one 12 (.one 13 (.one 14 (.one 15 (.one 16 (.all [(17, .one 18 (.all [(19, .done)]))])))))))))))))))))
def sch_354_3 : Sch := .one 0 (.one 1 (.one 2 (.one 3 (.one 4 (.one 5 (.one 6 (.one 7 (.one 8 (.one 9 (.one 10 (.one 11 (.one 12 (.all [(13, .one 14 (.all [(15, .done)]))])))))))))))))
def sch_355_5 : Sch := .one 0 (.one 1 (.one 2 (.one 3 (.one 4 (.one 5 (.one 6 (.one 7 (.one 8 (.one 9 (.one 10 (.one 11 (.one 12 (.one 13 (.all [(14, .one 15 (.one 16 (.one 17 (.done))))]))))))))))))))
def sch_355_11 : Sch := .one 0 (.one 1 (.one 2 (.one 3 (.one 4 (.one 5 (.one 6 (.one 7 (.one 8 (.one 9 (.one 10 (.one 11 (.one 12 (.one 13 (.one 14 (.all [(15, .one 16 (.all [(17, .done)]))])))))))))))))))
def sch_355_16 : Sch := .one 0 (.one 1 (.one 2 (.one 3 (.one 4 (.one 5 (.one 6 (.one 7 (.one 8 (.one 9 (.all [(10, .one 11 (.one 12 (.done)))]))))))))))
def sch_355_17 : Sch := .one 0 (.one 1 (.one 2 (.one 3 (.one 4 (.one 5 (.one 6 (.one 7 (.one 8 (.one 9 (.one 10 (.one 11 (.one 12 (.one 13 (.one 14 (.all [(15, .one 16 (.all [(17, .done)]))])))))))))))))))
def sch_355_22 : Sch := .one 0 (.one 1 (.one 2 (.one 3 (.one 4 (.one 5 (.one 6 (.one 7 (.one 8 (.one 9 (.all [(10, .one 11 (.one 12 (.done)))]))))))))))
def sch_355_23 : Sch := .one 0 (.one 1 (.one 2 (.one 3 (.one 4 (.one 5 (.one 6 (.one 7 (.one 8 (.one 9 (.one 10 (.one 11 (.one 12 (.one 13 (.one 14 (.all [(15, .one 16 (.all [(17, .done)]))])))))))))))))))
def sch_356_1 : Sch := .one 0 (.one 1 (.one 2 (.one 3 (.one 4 (.one 5 (.one 6 (.one 7 (.one 8 (.one 9 (.one 10 (.one 11 (.one 12 (.all [(13, .one 14 (.all [(15, .done)]))])))))))))))))
def sch_356_3 : Sch := .one 0 (.one 1 (.one 2 (.one 3 (.one 4 (.one 5 (.one 6 (.one 7 (.one 8 (.one 9 (.one 10 (.one 11 (.one 12 (.all [(13, .one 14 (.one 15 (.one 16 (.done))))])))))))))))))
def sch_356_5 : Sch := .one 0 (.one 1 (.one 2 (.one 3 (.one 4 (.one 5 (.one 6 (.one 7 (.one 8 (.one 9 (.one 10 (.one 11 (.one 12 (.all [(13, .one 14 (.one 15 (.done)))])))))))))))))
def sch_356_8 : Sch := .one 0 (.one 1 (.one 2 (.one 3 (.one 4 (.one 5 (.one 6 (.one 7 (.one 8 (.one 9 (.one 10 (.one 11 (.one 12 (.all [(13, .one 14 (.all [(15, .done)]))])))))))))))))
def sch_357_1 : Sch := .one 0 (.one 1 (.one 2 (.one 3 (.one 4 (.one 5 (.one 6 (.one 7 (.one 8 (.one 9 (.one 10 (.one 11 (.one 12 (.all [(13, .one 14 (.all [(15, .done)]))])))))))))))))
def sch_357_3 : Sch := .one 0 (.one 1 (.one 2 (.one 3 (.one 4 (.one 5 (.one 6 (.one 7 (.one 8 (.one 9 (.one 10 (.one 11 (.one 12 (.all [(13, .one 14 (.one 15 (.done)))])))))))))))))
def sch_357_5 : Sch := .one 0 (.one 1 (.one 2 (.one 3 (.one 4 (.one 5 (.one 6 (.one 7 (.one 8 (.one 9 (.one 10 (.one 11 (.one 12 (.all [(13, .one 14 (.one 15 (.one 16 (.done))))])))))))))))))
def sch_357_8 : Sch := .one 0 (.one 1 (.one 2 (.one 3 (.one 4 (.one 5 (.one 6 (.one 7 (.one 8 (.one 9 (.one 10 (.one 11 (.one 12 (.all [(13, .one 14 (.all [(15, .done)]))])))))))))))))
def sch_357_10 : Sch := .one 0 (.one 1 (.one 2 (.one 3 (.one 4 (.one 5 (.one 6 (.one 7 (.one 8 (.one 9 (.one 10 (.one 11 (.one 12 (.all [(13, .one 14 (.all [(15, .done)]))])))))))))))))
def sch_357_13 : Sch := .one 0 (.one 1 (.one 2 (.one 3 (.one 4 (.one 5 (.one 6 (.one 7 (.one 8 (.one 9 (.one 10 (.one 11 (.one 12 (.all [(13, .one 14 (.one 15 (.done)))])))))))))))))
def sch_357_15 : Sch := .one 0 (.one 1 (.one 2 (.one 3 (.one 4 (.one 5 (.one 6 (.one 7 (.one 8 (.one 9 (.one 10 (.one 11 (.one 12 (.all [(13, .one 14 (.one 15 (.one 16 (.done))))])))))))))))))
def sch_357_18 : Sch := .one 0 (.one 1 (.one 2 (.one 3 (.one 4 (.one 5 (.one 6 (.one 7 (.one 8 (.one 9 (.one 10 (.one 11 (.one 12 (.all [(13, .one 14 (.all [(15, .done)]))])))))))))))))
def sch_357_21 : Sch := .one 0 (.one 1 (.one 2 (.one 3 (.one 4 (.one 5 (.one 6 (.one 7 (.one 8 (.one 9 (.one 10 (.one 11 (.one 12 (.all [(13, .one 14 (.all [(15, .done)]))])))))))))))))
def sch_358_4 : Sch := .one 0 (.one 1 (.one 2 (.one 3 (.one 4 (.one 5 (.one 6 (.one 7 (.one 8 (.one 9 (.one 10 (.one 11 (.one 12 (.one 13 (.all [(14, .one 15 (.one 16 (.done)))]))))))))))))))
def sch_358_6 : Sch := .one 0 (.one 1 (.one 2 (.one 3 (.one 4 (.one 5 (.one 6 (.one 7 (.one 8 (.one 9 (.one 10 (.one 11 (.one 12 (.one 13 (.one 14 (.all [(15, .one 16 (.all [(17, .done)]))])))))))))))))))
def sch_359_10 : Sch := .one 0 (.one 1 (.one 2 (.one 3 (.one 4 (.one 5 (.one 6 (.one 7 (.one 8 (.one 9 (.one 10 (.one 11 (.one 12 (.one 13 (.one 14 (.one 15 (.one 16 (.all [(17, .one 18 (.all [(19, .done)]))])))))))))))))))))
def sch_360_10 : Sch := .one 0 (.one 1 (.one 2 (.one 3 (.one 4 (.one 5 (.one 6 (.one 7 (.one 8 (.one 9 (.one 10 (.one 11 (.one 12 (.one 13 (.one 14 (.one 15 (.one 16 (.all [(17, .one 18 (.all [(19, .done)]))])))))))))))))))))
def sch_362_3 : Sch := .one 0 (.one 1 (.one 2 (.one 3 (.one 4 (.one 5 (.one 6 (.one 7 (.one 8 (.one 9 (.one 10 (.one 11 (.one 12 (.all [(13, .one 14 (.all [(15, .done)]))])))))))))))))
def sch_363_5 : Sch := .one 0 (.one 1 (.one 2 (.one 3 (.one 4 (.one 5 (.one 6 (.one 7 (.one 8 (.one 9 (.one 10 (.one 11 (.one 12 (.one 13 (.all [(14, .one 15 (.one 16 (.one 17 (.done))))]))))))))))))))
def sch_363_11 : Sch := .one 0 (.one 1 (.one 2 (.one 3 (.one 4 (.one 5 (.one 6 (.one 7 (.one 8 (.one 9 (.one 10 (.one 11 (.one 12 (.one 13 (.one 14 (.all [(15, .one 16 (.all [(17, .done)]))])))))))))))))))
def sch_363_16 : Sch := .one 0 (.one 1 (.one 2 (.one 3 (.one 4 (.one 5 (.one 6 (.one 7 (.one 8 (.one 9 (.all [(10, .one 11 (.one 12 (.done)))]))))))))))
def sch_363_17 : Sch := .one 0 (.one 1 (.one 2 (.one 3 (.one 4 (.one 5 (.one 6 (.one 7 (.one 8 (.one 9 (.one 10 (.one 11 (.one 12 (.one 13 (.one 14 (.all [(15, .one 16 (.all [(17, .done)]))])))))))))))))))
def sch_363_22 : Sch := .one 0 (.one 1 (.one 2 (.one 3 (.one 4 (.one 5 (.one 6 (.one 7 (.one 8 (.one 9 (.all [(10, .one 11 (.one 12 (.done)))]))))))))))
def sch_363_23 : Sch := .one 0 (.one 1 (.one 2 (.one 3 (.one 4 (.one 5 (.one 6 (.one 7 (.one 8 (.one 9 (.one 10 (.one 11 (.one 12 (.one 13 (.one 14 (.all [(15, .one 16 (.all [(17, .done)]))])))))))))))))))
def sch_364_1 : Sch := .one 0 (.one 1 (.one 2 (.one 3 (.one 4 (.one 5 (.one 6 (.one 7 (.one 8 (.one 9 (.one 10 (.one 11 (.one 12 (.all [(13, .one 14 (.all [(15, .done)]))])))))))))))))
def sch_364_3 : Sch := .one 0 (.one 1 (.one 2 (.one 3 (.one 4 (.one 5 (.one 6 (.one 7 (.one 8 (.one 9 (.one 10 (.one 11 (.one 12 (.all [(13, .one 14 (.one 15 (.one 16 (.done))))])))))))))))))
def sch_364_5 : Sch := .one 0 (.one 1 (.one 2 (.one 3 (.one 4 (.one 5 (.one 6 (.one 7 (.one 8 (.one 9 (.one 10 (.one 11 (.one 12 (.all [(13, .one 14 (.one 15 (.done)))])))))))))))))
def sch_364_8 : Sch := .one 0 (.one 1 (.one 2 (.one 3 (.one 4 (.one 5 (.one 6 (.one 7 (.one 8 (.one 9 (.one 10 (.one 11 (.one 12 (.all [(13, .one 14 (.all [(15, .done)]))])))))))))))))
def sch_365_1 : Sch := .one 0 (.one 1 (.one 2 (.one 3 (.one 4 (.one 5 (.one 6 (.one 7 (.one 8 (.one 9 (.one 10 (.one 11 (.one 12 (.all [(13, .one 14 (.all [(15, .done)]))])))))))))))))
def sch_365_3 : Sch := .one 0 (.one 1 (.one 2 (.one 3 (.one 4 (.one 5 (.one 6 (.one 7 (.one 8 (.one 9 (.one 10 (.one 11 (.one 12 (.all [(13, .one 14 (.one 15 (.done)))])))))))))))))
def sch_365_5 : Sch := .one 0 (.one 1 (.one 2 (.one 3 (.one 4 (.one 5 (.one 6 (.one 7 (.one 8 (.one 9 (.one 10 (.one 11 (.one 12 (.all [(13, .one 14 (.one 15 (.one 16 (.done))))])))))))))))))
def sch_365_8 : Sch := .one 0 (.one 1 (.one 2 (.one 3 (.one 4 (.one 5 (.one 6 (.one 7 (.one 8 (.one 9 (.one 10 (.one 11 (.one 12 (.all [(13, .one 14 (.all [(15, .done)]))])))))))))))))
def sch_365_10 : Sch := .one 0 (.one 1 (.one 2 (.one 3 (.one 4 (.one 5 (.one 6 (.one 7 (.one 8 (.one 9 (.one 10 (.one 11 (.one 12 (.all [(13, .one 14 (.all [(15, .done)]))])))))))))))))
def sch_365_13 : Sch := .one 0 (.one 1 (.one 2 (.one 3 (.one 4 (.one 5 (.one 6 (.one 7 (.one 8 (.one 9 (.one 10 (.one 11 (.one 12 (.all [(13, .one 14 (.one 15 (.done)))])))))))))))))
def sch_365_15 : Sch := .one 0 (.one 1 (.one 2 (.one 3 (.one 4 (.one 5 (.one 6 (.one 7 (.one 8 (.one 9 (.one 10 (.one 11 (.one 12 (.all [(13, .one 14 (.one 15 (.one 16 (.done))))])))))))))))))
def sch_365_18 : Sch := .one 0 (.one 1 (.one 2 (.one 3 (.one 4 (.one 5 (.one 6 (.one 7 (.one 8 (.one 9 (.one 10 (.one 11 (.one 12 (.all [(13, .one 14 (.all [(15, .done)]))])))))))))))))
def sch_365_21 : Sch := .one 0 (.one 1 (.one 2 (.one 3 (.one 4 (.one 5 (.one 6 (.one 7 (.one 8 (.one 9 (.one 10 (.one 11 (.one 12 (.all [(13, .one 14 (.all [(15, .done)]))])))))))))))))
def sch_366_3 : Sch := .one 0 (.one 1 (.one 2 (.one 3 (.one 4 (.one 5 (.one 6 (.one 7 (.one 8 (.one 9 (.one 10 (.one 11 (.one 12 (.one 13 (.one 14 (.one 15 (.one 16 (.one 17 (.one 18 (.all [(19, .one 20 (.one 21 (.done)))])))))))))))))))))))
def sch_366_5 : Sch := .one 0 (.one 1 (.one 2 (.one 3 (.one 4 (.one 5 (.one 6 (.one 7 (.one 8 (.one 9 (.one 10 (.one 11 (.one 12 (.all [(13, .one 14 (.one 15 (.done)))])))))))))))))
def sch_366_6 : Sch := .one 0 (.one 1 (.one 2 (.one 3 (.one 4 (.one 5 (.one 6 (.one 7 (.one 8 (.one 9 (.one 10 (.one 11 (.one 12 (.one 13 (.one 14 (.one 15 (.one 16 (.one 17 (.one 18 (.one 19 (.one 20 (.all [(21, .one 22 (.all [(23, .done)]))])))))))))))))))))))))
def sch_368_1 : Sch := .one 0 (.one 1 (.one 2 (.one 3 (.one 4 (.one 5 (.one 6 (.one 7 (.one 8 (.all [(9, .done)])))))))))
def sch_368_2 : Sch := .one 0 (.one 1 (.one 2 (.one 3 (.one 4 (.one 5 (.one 6 (.one 7 (.one 8 (.all [(9, .done)])))))))))
def sch_368_3 : Sch := .one 0 (.one 1 (.one 2 (.one 3 (.one 4 (.one 5 (.one 6 (.one 7 (.one 8 (.all [(9, .done)])))))))))
def sch_371_3 : Sch := .one 0 (.one 1 (.one 2 (.one 3 (.one 4 (.one 5 (.one 6 (.one 7 (.one 8 (.one 9 (.one 10 (.one 11 (.one 12 (.one 13 (.one 14 (.one 15 (.one 16 (.one 17 (.all [(18, .one 19 (.done))]))))))))))))))))))
def sch_371_5 : Sch := .one 0 (.one 1 (.one 2 (.one 3 (.one 4 (.one 5 (.one 6 (.one 7 (.one 8 (.one 9 (.one 10 (.one 11 (.all [(12, .one 13 (.done))]))))))))))))
def sch_371_6 : Sch := .one 0 (.one 1 (.one 2 (.one 3 (.one 4 (.one 5 (.one 6 (.one 7 (.one 8 (.one 9 (.one 10 (.one 11 (.one 12 (.one 13 (.one 14 (.one 15 (.one 16 (.one 17 (.one 18 (.one 19 (.one 20 (.all [(21, .one 22 (.all [(23, .done)]))])))))))))))))))))))))
def sch_374_3 : Sch := .one 0 (.one 1 (.one 2 (.one 3 (.one 4 (.one 5 (.one 6 (.one 7 (.one 8 (.one 9 (.one 10 (.one 11 (.one 12 (.one 13 (.one 14 (.one 15 (.one 16 (.one 17 (.one 18 (.all [(19, .one 20 (.one 21 (.done)))])))))))))))))))))))
def sch_374_5 : Sch := .one 0 (.one 1 (.one 2 (.one 3 (.one 4 (.one 5 (.one 6 (.one 7 (.one 8 (.one 9 (.one 10 (.one 11 (.one 12 (.all [(13, .one 14 (.one 15 (.done)))])))))))))))))
def sch_374_6 : Sch := .one 0 (.one 1 (.one 2 (.one 3 (.one 4 (.one 5 (.one 6 (.one 7 (.one 8 (.one 9 (.one 10 (.one 11 (.one 12 (.one 13 (.one 14 (.one 15 (.one 16 (.one 17 (.one 18 (.one 19 (.one 20 (.all [(21, .one 22 (.all [(23, .done)]))])))))))))))))))))))))
def sch_377_3 : Sch := .one 0 (.one 1 (.one 2 (.one 3 (.one 4 (.one 5 (.one 6 (.one 7 (.one 8 (.one 9 (.one 10 (.one 11 (.one 12 (.one 13 (.one 14 (.one 15 (.one 16 (.one 17 (.one 18 (.all [(19, .one 20 (.one 21 (.done)))])))))))))))))))))))
def sch_377_5 : Sch := .one 0 (.one 1 (.one 2 (.one 3 (.one 4 (.one 5 (.one 6 (.one 7 (.one 8 (.one 9 (.one 10 (.one 11 (.one 12 (.all [(13, .one 14 (.one 15 (.done)))])))))))))))))
def sch_377_6 : Sch := .one 0 (.one 1 (.one 2 (.one 3 (.one 4 (.one 5 (.one 6 (.one 7 (.one 8 (.one 9 (.one 10 (.one 11 (.one 12 (.one 13 (.one 14 (.one 15 (.one 16 (.one 17 (.one 18 (.one 19 (.one 20 (.all [(21, .one 22 (.all [(23, .done)]))])))))))))))))))))))))
def sch_380_1 : Sch := .one 0 (.one 1 (.one 2 (.one 3 (.one 4 (.one 5 (.one 6 (.one 7 (.one 8 (.all [(9, .one 10 (.done))])))))))))
def sch_381_1 : Sch := .one 0 (.one 1 (.one 2 (.one 3 (.one 4 (.one 5 (.one 6 (.one 7 (.all [(8, .done)]))))))))
def sch_382_1 : Sch := .one 0 (.one 1 (.one 2 (.one 3 (.one 4 (.one 5 (.one 6 (.one 7 (.one 8 (.all [(9, .one 10 (.done))])))))))))
def sch_383_1 : Sch := .one 0 (.one 1 (.one 2 (.one 3 (.one 4 (.one 5 (.one 6 (.one 7 (.one 8 (.all [(9, .one 10 (.done))])))))))))
attribute [go_sem] sch_3_5 sch_3_6 sch_4_10 sch_18_7 sch_19_6 sch_20_6 sch_26_6 sch_28_5 sch_29_10 sch_31_4 sch_34_6 sch_35_6 sch_39_6 sch_39_11 sch_39_16 sch_41_10 sch_42_5 sch_42_6 sch_44_6 sch_47_10 sch_48_6 sch_50_6 sch_54_4 sch_58_4 sch_59_4 sch_59_9 sch_60_4 sch_62_3 sch_65_3 sch_67_5 sch_67_7 sch_70_5 sch_73_6 sch_74_6 sch_83_12 sch_86_1 sch_86_6 sch_86_7 sch_86_9 sch_86_11 sch_86_14 sch_86_16 sch_86_17 sch_86_22 sch_86_24 sch_86_30 sch_86_33 sch_87_1 sch_87_5 sch_87_7 sch_87_10 sch_87_13 sch_87_15 sch_87_17 sch_87_19 sch_87_22 sch_87_24 sch_87_26 sch_87_30 sch_87_32 sch_87_35 sch_87_38 sch_88_1 sch_88_4 sch_88_6 sch_88_9 sch_88_11 sch_88_13 sch_88_15 sch_88_17 sch_88_19 sch_88_20 sch_88_23 sch_88_25 sch_88_26 sch_89_1 sch_89_4 sch_89_6 sch_89_8 sch_89_11 sch_89_13 sch_89_15 sch_89_16 sch_89_19 sch_89_21 sch_89_24 sch_89_26 sch_89_30 sch_89_31 sch_89_34 sch_89_36 sch_89_37 sch_90_1 sch_90_4 sch_90_10 sch_90_11 sch_90_13 sch_90_15 sch_90_16 sch_90_18 sch_90_20 sch_90_24 sch_90_27 sch_90_30 sch_90_32 sch_90_36 sch_90_37 sch_91_3 sch_91_7 sch_91_15 sch_91_19 sch_91_20 sch_91_21 sch_91_24 sch_91_27 sch_91_29 sch_91_30 sch_91_34 sch_91_37 sch_91_39 sch_91_42 sch_91_46 sch_91_48 sch_91_50 sch_96_4 sch_97_4 sch_98_11 sch_98_19 sch_101_1 sch_101_3 sch_101_5 sch_101_11 sch_101_12 sch_101_13 sch_101_14 sch_101_22 sch_101_25 sch_101_28 sch_101_30 sch_103_6 sch_104_6 sch_105_6 sch_108_6 sch_109_6 sch_110_6 sch_113_12 sch_120_4 sch_123_7 sch_125_5 sch_125_6 sch_139_5 sch_139_7 sch_144_6 sch_145_7 sch_147_4 sch_148_4 sch_153_1 sch_155_2 sch_155_4 sch_155_6 sch_156_2 sch_156_4 sch_167_7 sch_168_5 sch_172_6 sch_174_4 sch_175_5 sch_184_1 sch_186_1 sch_189_1 sch_190_1 sch_191_1 sch_192_1 sch_196_1 sch_201_1 sch_204_1 sch_206_1 sch_208_1 sch_210_1 sch_212_1 sch_216_1 sch_219_1 sch_221_1 sch_222_1 sch_224_1 sch_227_1 sch_228_2 sch_230_1 sch_232_1 sch_234_1 sch_236_1 sch_239_1 sch_242_1 sch_243_1 sch_247_1 sch_248_1 sch_255_3 sch_256_5 sch_258_3 sch_259_5 sch_261_3 sch_262_1 sch_274_1 sch_275_1 sch_279_9 sch_280_1 sch_282_1 sch_283_5 sch_283_6 sch_284_3 sch_289_5 sch_292_5 sch_293_5 sch_294_12 sch_302_7 sch_302_8 sch_302_9 sch_302_10 sch_302_17 sch_302_18 sch_302_23 sch_306_11 sch_306_15 sch_308_6 sch_308_11 sch_322_17 sch_326_17 sch_327_17 sch_328_17 sch_331_4 sch_331_6 sch_332_10 sch_333_10 sch_335_3 sch_336_5 sch_336_11 sch_336_16 sch_336_17 sch_336_22 sch_336_23 sch_337_1 sch_337_3 sch_337_5 sch_337_8 sch_338_1 sch_338_3 sch_338_5 sch_338_8 sch_338_10 sch_338_13 sch_338_15 sch_338_18 sch_338_21 sch_341_4 sch_341_6 sch_342_10 sch_343_10 sch_345_3 sch_346_5 sch_346_11 sch_346_16 sch_346_17 sch_346_22 sch_346_23 sch_348_1 sch_348_3 sch_348_5 sch_348_8 sch_349_1 sch_349_3 sch_349_5 sch_349_8 sch_349_10 sch_349_13 sch_349_15 sch_349_18 sch_349_21 sch_350_4 sch_350_6 sch_351_10 sch_352_10 sch_354_3 sch_355_5 sch_355_11 sch_355_16 sch_355_17 sch_355_22 sch_355_23 sch_356_1 sch_356_3 sch_356_5 sch_356_8 sch_357_1 sch_357_3 sch_357_5 sch_357_8 sch_357_10 sch_357_13 sch_357_15 sch_357_18 sch_357_21 sch_358_4 sch_358_6 sch_359_10 sch_360_10 sch_362_3 sch_363_5 sch_363_11 sch_363_16 sch_363_17 sch_363_22 sch_363_23 sch_364_1 sch_364_3 sch_364_5 sch_364_8 sch_365_1 sch_365_3 sch_365_5 sch_365_8 sch_365_10 sch_365_13 sch_365_15 sch_365_18 sch_365_21 sch_366_3 sch_366_5 sch_366_6 sch_368_1 sch_368_2 sch_368_3 sch_371_3 sch_371_5 sch_371_6 sch_374_3 sch_374_5 sch_374_6 sch_377_3 sch_377_5 sch_377_6 sch_380_1 sch_381_1 sch_382_1 sch_383_1
end Go.Proofs.YtcpfhonmdbhdbaaGreatDoor.Am
namespace Go.Proofs.YtcpfhonmdbhdbaaGreatDoor.Am
open Go
set_option linter.unusedVariables false
def plC : AV → AV
  | .t x => .t (x.mk false)
  | x => x
def plV : AV → AV
  | .agg cs => .agg (cs.map plC)
  | .fn f cs => .fn f (cs.map plC)
  | x => plC x
theorem plC_r {c : Cx} {x : AV} {v : Value} (h : AVr c x v) : AVr c (plC x) v := by
  cases x <;> first | exact h | exact Rd.mk (x := _) false h
theorem plCs_r {c : Cx} : ∀ {xs : List AV} {vs : List Value}, AVr.AVrs c xs vs → AVr.AVrs c (xs.map plC) vs
  | [], [], _ => trivial
  | x :: xs, v :: vs, h => ⟨plC_r h.1, plCs_r h.2⟩
  | [], _ :: _, h => h.elim
  | _ :: _, [], h => h.elim
theorem plV_r {c : Cx} {x : AV} {v : Value} (h : AVr c x v) : AVr c (plV x) v := by
  cases x with
  | agg cs => obtain ⟨vs, rfl, h⟩ := h; exact ⟨vs, rfl, plCs_r h⟩
  | fn f cs => obtain ⟨vs, rfl, h⟩ := h; exact ⟨vs, rfl, plCs_r h⟩
  | t x => exact plC_r (x := .t x) h
  | _ => exact h
theorem plVs_r {c : Cx} : ∀ {xs : List AV} {vs : List Value}, AVr.AVrs c xs vs → AVr.AVrs c (xs.map plV) vs
  | [], [], _ => trivial
  | x :: xs, v :: vs, h => ⟨plV_r h.1, plVs_r h.2⟩
  | [], _ :: _, h => h.elim
  | _ :: _, [], h => h.elim
section
variable {P : Program} {Γ : Env} {f : FuncId} {avs args args0 : List AV} {d : Option Tmp} {K : St → Prop} {s : St} {Q Q' : AV → Prop}
theorem Spec.plain (h : Spec P f (args.map plV) Q) : Spec P f args Q := fun w D vs hD hv => h w D vs hD (plVs_r hv)
theorem Spec.weaken (h : Spec P f args Q) (hq : ∀ r, Q r → Q' r) : Spec P f args Q' := fun w D vs hD hv =>
  (h w D vs hD hv).mono fun e w' ⟨v, r, he, hr, ho⟩ => ⟨v, r, he, hq r hr, ho⟩
theorem CallW.p (hs : Spec P f args0 Q) (hp : Plain P f) (ha : (argAVs s.hp avs).map (List.map plV) = some args0) (hv : permVs avs = true) (hK : ∀ r, Q r → Sm (bindR s d r) K) : CallW P Γ f avs d K s := by
  rw [Option.map_eq_some_iff] at ha
  obtain ⟨args, h1, rfl⟩ := ha
  exact CallW0.w (.perm args Q h1 hv hp hs.plain hK)
theorem CallW.a (hs : Spec P f args0 Q) (hp : Plain P f) (ha : (argAVs s.hp avs).map (List.map plV) = some args0) (hd : ∀ r, Q r → DeepR r) (hK : ∀ r, Q r → Sm (bindR s d r) K) : CallW P Γ f avs d K s := by
  rw [Option.map_eq_some_iff] at ha
  obtain ⟨args, h1, rfl⟩ := ha
  exact CallW0.w (.any args Q h1 hp hs.plain hd hK)
theorem SpecO.plain {hc : Hp} {R : AV → Hp → Prop} (h : SpecO P f (args.map plV) hc R) : SpecO P f args hc R := fun w D ρ col vs hh hv => h w D ρ col vs hh (plVs_r hv)
theorem SpecO.weaken {hc : Hp} {R R' : AV → Hp → Prop} (h : SpecO P f args hc R) (hq : ∀ r h, R r h → R' r h) : SpecO P f args hc R' := fun w D ρ col vs hh hv =>
  (h w D ρ col vs hh hv).mono fun e w' ⟨v, r, hp', col', he, hr, ho⟩ => ⟨v, r, hp', col', he, hq r hp' hr, ho⟩
theorem CallW.o {hc : Hp} {R : AV → Hp → Prop} (σ : List (Nat × Nat)) (hs : SpecO P f args0 hc R) (hp : Plain P f) (ho : Γ.opn f = true) (hσ : okS σ = true) (hl : lendH s.hp σ σ = some hc) (ha : (AV.lend.lends σ avs).map plV = args0)
    (hK : ∀ r h', R r h' → Sm (openS s σ r h' d) K) : CallW P Γ f avs d K s :=
  CallW0.w (.opn σ hc R ho hσ hl hp (ha ▸ hs).plain hK)
theorem CallW.n {hc : Hp} {R : AV → Hp → Prop} (σ : List (Nat × Nat)) (pre post : List AV) {x : T} {k i j : Nat} (m : Nat) {s1 : St} (hav : avs = pre ++ .ls x (some (k, i, j)) :: post) (hf : focus s m k i j = some s1) (hs : SpecO P f args0 hc R) (hp : Plain P f) (ho : Γ.opn f = true) (hσ : okS σ = true) (hk : lkI σ k = none)
    (hl : lendH s1.hp σ σ = some hc) (ha : (AV.lend.lends σ (AV.lsk.lsks pre ++ .refw m :: AV.lsk.lsks post)).map plV = args0)
    (hK : ∀ r h', R r h' → Sm (nestS s1 σ r h' m k i j d) K) : CallW P Γ f avs d K s :=
  CallW0.w (.nest σ hc R pre post x m k i j s1 ho hσ hav hf hk hl hp (ha ▸ hs).plain hK)
theorem CallW.ps (hs : Spec P f args0 Q) (hp : Plain P f) (ha : (argAVs s.hp avs).map (List.map plV) = some args0) (hv : permVs avs = true) (hK : ∀ r, Q r → Sm (bindR s d (shareR r)) K) : CallW P Γ f avs d K s :=
  CallW.p hs.share hp ha hv fun r ⟨r0, hq, e⟩ => by subst e; exact hK r0 hq
theorem CallW.box {cs : List AV} {i : Nat} (hs : SpecB P f avs cs) (hp : Plain P f) (ha : argAVs s.hp avs = some avs) (hv : permVs avs = true) (hcs : permCs cs = true) (hd : d = some i) (hk : hget s.hp (8 * i + 1) = none) (hk2 : 8 * i + 1 < pin)
    (hK : K ⟨pt s.tm i (.ptr (8 * i + 1) 0 0), hput s.hp (8 * i + 1) (.box cs)⟩) : CallW P Γ f avs d K s := (CallW0.box _ cs i ha hv hp hs hcs hd hk hk2 hK).w
theorem CallW.one {r : AV} (hs : Spec P f args0 (fun x => x = r)) (hp : Plain P f) (ha : (argAVs s.hp avs).map (List.map plV) = some args0) (hd : DeepR r) (hK : Sm (bindR s d r) K) : CallW P Γ f avs d K s :=
  .a hs hp ha (fun _ e => e ▸ hd) (fun _ e => e ▸ hK)
theorem CallW.onep {r : AV} (hs : Spec P f args0 (fun x => x = r)) (hp : Plain P f) (ha : (argAVs s.hp avs).map (List.map plV) = some args0) (hv : permVs avs = true) (hK : Sm (bindR s d r) K) : CallW P Γ f avs d K s :=
  .p hs hp ha hv (fun _ e => e ▸ hK)
end
attribute [go_sem] frzSt plC plV T.mk_list T.mk_int T.mk_bool T.mk_str List.map_cons List.map_nil Option.map_some Option.bind_some Option.some.injEq
end Go.Proofs.YtcpfhonmdbhdbaaGreatDoor.Am
namespace Go.Proofs.YtcpfhonmdbhdbaaGreatDoor.Am
open Go
set_option linter.unusedVariables false
def LeTs : List AV → List AV → Prop
  | [], [] => True
  | a :: l, b :: m => (b = .undef ∨ a = b) ∧ LeTs l m
  | _, _ => False
theorem LeTs_nil : LeTs [] [] = True := rfl
theorem LeTs_undef (a : AV) (l m : List AV) : LeTs (a :: l) (.undef :: m) = LeTs l m := by simp [LeTs]
theorem LeTs_same (a : AV) (l m : List AV) : LeTs (a :: l) (a :: m) = LeTs l m := by simp [LeTs]
theorem LeTs_gt : ∀ {l m : List AV}, LeTs l m → l.length = m.length ∧ ∀ i, gt m i = .undef ∨ gt l i = gt m i
  | [], [], _ => ⟨rfl, fun i => .inr rfl⟩
  | a :: l, b :: m, h => by
    obtain ⟨h1, h2⟩ := LeTs_gt h.2
    refine ⟨by simp [h1], fun i => ?_⟩
    cases i with
    | zero => exact h.1
    | succ i => exact h2 i
  | [], _ :: _, h => h.elim
  | _ :: _, [], h => h.elim
theorem LeS.refl (s : St) : LeS s s := fun _ _ _ h => h
theorem LeS.trans {s1 s2 s3 : St} (h : LeS s1 s2) (h' : LeS s2 s3) : LeS s1 s3 := fun B a w hs => h' B a w (h B a w hs)
theorem LeS.drop (s : St) {k : Nat} (hk : k < pin) : LeS s (s.drop k) := by
  rintro B a w ⟨ρ, col, h⟩
  exact ⟨_, _, (h.drop k hk none (fun i j => (k, i, j)) (fun _ _ e => by cases e) (fun _ _ => ne_lim hk)).1⟩
theorem LeS.drops (s : St) : ∀ {ks : List Nat}, (∀ k ∈ ks, k < pin) → LeS s (s.drops ks)
  | [], _ => LeS.refl s
  | k :: ks, h => (LeS.drops s (ks := ks) fun k hk => h k (by simp [hk])).trans (LeS.drop _ (h k (by simp)))
theorem LeS.forget {s s' : St} (h : LeTs s.tm s'.tm) (hh : s.hp = s'.hp) : LeS s s' := by
  rintro B a w ⟨ρ, col, hs⟩
  obtain ⟨h1, h2⟩ := LeTs_gt h
  obtain ⟨tm, hp⟩ := s
  obtain ⟨tm', hp'⟩ := s'
  simp only at h1 h2 hh
  subst hh
  refine ⟨ρ, col, ⟨hs.defers, h1 ▸ hs.len, hs.keep, fun i => ?_, hs.hp, hs.dom, hs.inj, hs.sep, hs.lab, hs.colb, hs.pins, hs.nolim⟩⟩
  show AVr _ (gt tm' i) _
  rcases h2 i with e | e
  · rw [e]; trivial
  · rw [← e]; exact hs.tm i
theorem LeS.of {s s' : St} (ks : List Nat) (hk : (ks.all fun k => decide (k < pin)) = true) (h1 : LeTs (s.drops ks).tm s'.tm) (h2 : (s.drops ks).hp = s'.hp) : LeS s s' :=
  (LeS.drops s fun k hm => by simpa using List.all_eq_true.1 hk k hm).trans (LeS.forget h1 h2)
def pts (l : List AV) : List (Nat × AV) → List AV
  | [] => l
  | p :: r => pt (pts l r) p.1 p.2
def hputs (h : Hp) : List (Nat × Blk) → Hp
  | [] => h
  | p :: r => hput (hputs h r) p.1 p.2
def Iof {α : Type} (inv : α → St) (rank : α → Nat) (ok : α → Prop) (s : St) (n : Nat) : Prop := ∃ x, s = inv x ∧ n = rank x ∧ ok x
def Rnd {α : Type} (inv : α → St) (rank : α → Nat) (ok : α → Prop) (n : Nat) (s : St) : Prop := ∃ y, LeS s (inv y) ∧ rank y < n ∧ ok y
section
variable {α : Type} (inv : α → St) (rank : α → Nat) (ok : α → Prop) (n : Nat) (K : Exit → St → Prop) (s : St)
theorem Klp_normal : Klp (Iof inv rank ok) n K .normal s = Rnd inv rank ok n s := by
  apply propext
  constructor
  · rintro ⟨s', m, h1, h2, x, rfl, rfl, h3⟩; exact ⟨x, h1, h2, h3⟩
  · rintro ⟨x, h1, h2, h3⟩; exact ⟨_, _, h1, h2, x, rfl, rfl, h3⟩
theorem Klp_exit (I : St → Nat → Prop) (i : Nat) : Klp I n K (.exit i) s = K (.exit i) s := rfl
theorem Klp_ret (I : St → Nat → Prop) : Klp I n K .ret s = K .ret s := rfl
end
theorem LoopW.by {α : Type} {body : (Exit → St → Prop) → St → Prop} {K : Exit → St → Prop} {s : St} (inv : α → St) (rank : α → Nat) (ok : α → Prop) (x0 : α) (h0 : LeS s (inv x0)) (hok : ok x0)
    (hb : ∀ x, ok x → body (Klp (Iof inv rank ok) (rank x) K) (inv x)) : LoopW body K s :=
  ⟨Iof inv rank ok, ⟨_, _, h0, x0, rfl, rfl, hok⟩, fun s n ⟨x, hs, hn, ho⟩ => by subst hs hn; exact hb x ho⟩
theorem LoopW.slots {α : Type} {body : (Exit → St → Prop) → St → Prop} {K : Exit → St → Prop} {tm : List AV} {hp : Hp} (ut : α → List (Nat × AV)) (uh : α → List (Nat × Blk)) (rank : α → Nat) (ok : α → Prop) (x0 : α)
    (h1 : pts tm (ut x0) = tm) (h2 : hputs hp (uh x0) = hp) (hok : ok x0)
    (hb : ∀ x, ok x → body (Klp (Iof (fun x => ⟨pts tm (ut x), hputs hp (uh x)⟩) rank ok) (rank x) K) ⟨pts tm (ut x), hputs hp (uh x)⟩) : LoopW body K ⟨tm, hp⟩ :=
  LoopW.by (fun x => ⟨pts tm (ut x), hputs hp (uh x)⟩) rank ok x0 (by rw [h1, h2]; exact LeS.refl _) hok hb
def msk : List Bool → List AV → List AV
  | true :: bs, a :: l => a :: msk bs l
  | false :: bs, _ :: l => .undef :: msk bs l
  | _, l => l
theorem LoopW.slotsM {α : Type} {body : (Exit → St → Prop) → St → Prop} {K : Exit → St → Prop} {tm : List AV} {hp : Hp} (bs : List Bool) (ut : α → List (Nat × AV)) (uh : α → List (Nat × Blk)) (rank : α → Nat) (ok : α → Prop) (x0 : α)
    (h1 : LeTs tm (pts (msk bs tm) (ut x0))) (h2 : hputs hp (uh x0) = hp) (hok : ok x0)
    (hb : ∀ x, ok x → body (Klp (Iof (fun x => ⟨pts (msk bs tm) (ut x), hputs hp (uh x)⟩) rank ok) (rank x) K) ⟨pts (msk bs tm) (ut x), hputs hp (uh x)⟩) : LoopW body K ⟨tm, hp⟩ :=
  LoopW.by (fun x => ⟨pts (msk bs tm) (ut x), hputs hp (uh x)⟩) rank ok x0 (by rw [h2]; exact LeS.forget h1 rfl) hok hb
theorem Rnd.to {α : Type} {inv : α → St} {rank : α → Nat} {ok : α → Prop} {n : Nat} {s : St} (ks : List Nat) (y : α) (hk : (ks.all fun k => decide (k < pin)) = true) (h1 : LeTs (s.drops ks).tm (inv y).tm) (h2 : (s.drops ks).hp = (inv y).hp) (hr : rank y < n) (ho : ok y) : Rnd inv rank ok n s :=
  ⟨y, LeS.of ks hk h1 h2, hr, ho⟩
theorem RegD.mono {P : Program} {id : Nat} {ops : Array Oper} {K K' : St → Prop} {s : St} (h : RegD P id ops K s) (hk : ∀ s', K s' → K' s') : RegD P id ops K' s :=
  fun B a w Q hs hp hn => h B a w Q hs hp fun s' a' w' h1 h2 => hn s' a' w' (hk s' h1) h2
theorem RegD_to {P : Program} {Γ : Env} {id : Nat} {ops : Array Oper} {K : St → Prop} {s : St} (t : Sch) (s0 : St) (hΓ : TysOk P Γ) (hb : (guardsB ops && Region.noSelect ops && schB Γ ops ops.size (Array.replicate ops.size false) t) = true) (h : Wsch P Γ ops.toList t (fun s' => s' = s0) s) (hK : K s0) : RegD P id ops K s :=
  (RegD_of t hΓ hb h).mono fun s' e => e ▸ hK
def nilB (s : St) : List (Nat × Nat × Nat × Nat) → Option St
  | [] => some s
  | (k, j, m, sz) :: l => match hget s.hp k with
    | some (.box cs) => match gt cs j with
      | .nils _ => if hget s.hp m = none ∧ m < pin ∧ k ≠ m then nilB ⟨s.tm, hput (hput s.hp k (.box (pt cs j (.refw m)))) m (.rows sz [])⟩ l else none
      | _ => none
    | _ => none
theorem AVrs_pt {c : Cx} {v : AV} : ∀ {xs : List AV} {vs : List Value} {j : Nat}, AVr.AVrs c xs vs → (∀ u, AVr c (gt xs j) u → AVr c v u) → AVr.AVrs c (pt xs j v) vs
  | [], [], _, _, _ => trivial
  | x :: xs, u :: us, 0, h, hv => ⟨hv u h.1, h.2⟩
  | x :: xs, u :: us, j + 1, h, hv => ⟨h.1, AVrs_pt h.2 hv⟩
  | [], _ :: _, _, h, _ => h.elim
  | _ :: _, [], _, h, _ => h.elim
theorem nilB_le : ∀ {l : List (Nat × Nat × Nat × Nat)} {s s' : St}, nilB s l = some s' → LeS s s'
  | [], s, s', h => by simp [nilB] at h; subst h; exact LeS.refl _
  | (k, j, m, sz) :: l, s, s', h => by
    unfold nilB at h
    split at h
    · rename_i cs hk
      split at h
      · rename_i z hz
        split at h
        · rename_i hc
          obtain ⟨hm, hp, hkm⟩ := hc
          refine LeS.trans ?_ (nilB_le h)
          rintro B a w ⟨ρ, col, hs⟩
          have hgp : ∀ n, hget (hput (hput s.hp k (.box (pt cs j (.refw m)))) m (.rows sz [])) n = if m = n then some (.rows sz []) else if k = n then some (.box (pt cs j (.refw m))) else hget s.hp n := by
            intro n; rw [hget_hput, hget_hput]
          have hle : (cx B ρ col w s.hp).le (cx B ρ col w (hput (hput s.hp k (.box (pt cs j (.refw m)))) m (.rows sz []))) fun _ => True := by
            refine ⟨fun _ _ _ => rfl, fun n b _ hb => ?_, fun b hb => ⟨hb, rfl⟩, fun b hb => ⟨hb, rfl⟩, fun _ _ _ _ => rfl, fun _ _ _ _ _ => rfl⟩
            have hb' : hget s.hp n = some b := hb
            have h1 : m ≠ n := fun e => by rw [e, hb'] at hm; cases hm
            show ∃ b', hget (hput (hput s.hp k (.box (pt cs j (.refw m)))) m (.rows sz [])) n = some b' ∧ _
            rw [hgp, if_neg h1]
            split
            · rename_i e; subst e; rw [hk] at hb'; cases hb'; exact ⟨_, rfl, trivial⟩
            · exact ⟨b, hb', blk_sim_refl b⟩
          refine ⟨ρ, col, ⟨hs.defers, hs.len, hs.keep, fun i => AVr.mono hle _ _ (hs.tm i), fun n b hb => ?_, fun n hn => ?_, hs.inj, hs.sep, hs.lab, hs.colb, hs.pins, by rw [hgp, if_neg (ne_lim hp), if_neg (fun e => by rw [e, hs.nolim] at hk; cases hk), hs.nolim]⟩⟩
          · have hb1 := hb
            simp only at hb1
            rw [hgp] at hb1
            split at hb1
            · rename_i e; subst e; cases hb1
              exact ⟨fun i r hi => by simp at hi, .inr ⟨rfl, hs.dom m hm⟩⟩
            · split at hb1
              · rename_i e; subst e; cases hb1
                obtain ⟨b, vs, e, fr, f1, f2, f3, f4⟩ := hs.hp k _ hk
                refine ⟨b, vs, e, fr, f1, f2, f3, AVrs_pt (AVrs.mono hle _ _ f4) (fun u hu => ?_)⟩
                rw [hz] at hu
                have hu' : u = .slice none 0 0 := hu
                subst hu'
                exact ⟨sz, [], by show hget (hput _ _ _) m = _; rw [hgp, if_pos rfl], .inr ⟨rfl, _, rfl⟩⟩
              · exact (hs.hp n b hb1).mono hle rfl (fun _ _ => rfl) (fun _ _ _ h => ⟨h, rfl⟩)
          · have hn1 := hn
            simp only at hn1
            rw [hgp] at hn1
            split at hn1
            · cases hn1
            · split at hn1
              · cases hn1
              · exact hs.dom n hn1
        · cases h
      · cases h
    · cases h
theorem LoopW.le {body : (Exit → St → Prop) → St → Prop} {K : Exit → St → Prop} {s s0 : St} (h : LeS s s0) (hl : LoopW body K s0) : LoopW body K s := by
  obtain ⟨I, ⟨s1, n, h1, h2⟩, h3⟩ := hl
  exact ⟨I, ⟨s1, n, h.trans h1, h2⟩, h3⟩
theorem LoopW.nil {body : (Exit → St → Prop) → St → Prop} {K : Exit → St → Prop} {s s0 : St} (l : List (Nat × Nat × Nat × Nat)) (h : nilB s l = some s0) (hl : LoopW body K s0) : LoopW body K s := hl.le (nilB_le h)
attribute [go_sem] nilB
attribute [go_sem] msk Klp_normal Klp_exit Klp_ret pts hputs
end Go.Proofs.YtcpfhonmdbhdbaaGreatDoor.Am
namespace Go.Proofs.YtcpfhonmdbhdbaaGreatDoor.Am
open Go
theorem row_getD {α : Type} (f : α → List T) (l : List α) {i : Nat} (h : i < l.length) : (l.map f).getD i [] = f l[i] := by
  simp [List.getD_eq_getElem?_getD, List.getElem?_eq_getElem h]
theorem wrap64 {n : Int} (h1 : -9223372036854775808 ≤ n) (h2 : n ≤ 9223372036854775807) : IntKind.i64.wrap n = n := by
  simp [IntKind.wrap, IntKind.signed, IntKind.bits]
  omega
abbrev I (n : Int) : AV := .t (.int .i64 n)
abbrev Bo (b : Bool) : AV := .t (.bool b)
theorem int_bne (a b : Int) : (a != b) = !decide (a = b) := by by_cases h : a = b <;> simp [h]
theorem int_beq (a b : Int) : (a == b) = decide (a = b) := by by_cases h : a = b <;> simp [h]
attribute [go_sem] int_bne int_beq List.length_map Int.toNat_natCast decide_eq_true_eq Int.reduceEq Int.reduceNe Int.reduceLT Int.reduceLE List.size_toArray List.set_set List.length_set not_false_eq_true
end Go.Proofs.YtcpfhonmdbhdbaaGreatDoor.Am
namespace Go.Proofs.YtcpfhonmdbhdbaaGreatDoor.Am
open Go
set_option linter.unusedVariables false
def sw (m n k : Nat) : Nat := if k = m then n else if k = n then m else k
theorem sw_sw (m n k : Nat) : sw m n (sw m n k) = k := by
  unfold sw
  by_cases h1 : k = m
  · subst h1
    by_cases h2 : n = k <;> simp [h2]
  · by_cases h2 : k = n
    · subst h2; simp [h1]
    · simp [h1, h2]
theorem sw_eq {m n k k' : Nat} : sw m n k = k' ↔ k = sw m n k' := ⟨fun h => by rw [← h, sw_sw], fun h => by rw [h, sw_sw]⟩
theorem sw_inj {m n k k' : Nat} (h : sw m n k = sw m n k') : k = k' := by rw [← sw_sw m n k, h, sw_sw]
theorem sw_ge {m n k p : Nat} (hm : m < p) (hn : n < p) (hk : p ≤ k) : sw m n k = k := by
  unfold sw; rw [if_neg (by omega), if_neg (by omega)]
def AV.ren (m n : Nat) : AV → AV
  | .refw k => .refw (sw m n k)
  | .ref k o l => .ref (sw m n k) o l
  | .ptr k i j => .ptr (sw m n k) i j
  | .ls x (some (k, i, j)) => .ls x (some (sw m n k, i, j))
  | .agg cs => .agg (rens m n cs)
  | .tup cs => .tup (rens m n cs)
  | .fn f cs => .fn f (rens m n cs)
  | v => v
where rens (m n : Nat) : List AV → List AV
  | [] => []
  | v :: l => v.ren m n :: rens m n l
def Blk.ren (m n : Nat) : Blk → Blk
  | .box cs => .box (AV.ren.rens m n cs)
  | .rows sz rs => .rows sz rs
def hren (m n : Nat) : Hp → Hp
  | [] => []
  | (k, b) :: h => hput (hren m n h) (sw m n k) (b.ren m n)
def St.ren (s : St) (m n : Nat) : St := ⟨AV.ren.rens m n s.tm, hren m n s.hp⟩
theorem hget_hren (m n : Nat) (h : Hp) (k : Nat) : hget (hren m n h) k = (hget h (sw m n k)).map (Blk.ren m n) := by
  induction h with
  | nil => rfl
  | cons p h ih =>
    obtain ⟨k0, b⟩ := p
    simp only [hren, hget, hget_hput]
    by_cases e : sw m n k0 = k
    · rw [if_pos e, if_pos (sw_eq.1 e)]; rfl
    · rw [if_neg e, if_neg (fun e' => e (sw_eq.2 e')), ih]
theorem gt_rens (m n : Nat) (l : List AV) (i : Nat) : gt (AV.ren.rens m n l) i = (gt l i).ren m n := by
  induction l generalizing i with
  | nil => simp [AV.ren.rens, gt, AV.ren]
  | cons a l ih => cases i <;> simp [AV.ren.rens, gt, ih]
theorem rens_length (m n : Nat) (l : List AV) : (AV.ren.rens m n l).length = l.length := by
  induction l with
  | nil => rfl
  | cons a l ih => simp [AV.ren.rens, ih]
def ρR (m n : Nat) (ρ : Nat → Option Nat) : Nat → Option Nat := fun k => ρ (sw m n k)
def colR (m n : Nat) (col : Col) : Col := fun b => match col b with
  | some (k, i, j) => some (sw m n k, i, j)
  | none => none
section
variable {B : Base} {ρ : Nat → Option Nat} {col : Col} {s : St} {a : Act} {w : World} {m n : Nat}
theorem ren_Dp {hp : Hp} {b : Nat} (h : (cx B ρ col w hp).Dp b) : (cx B (ρR m n ρ) (colR m n col) w (hren m n hp)).Dp b :=
  ⟨h.1, h.2.1, by have := h.2.2.1; simp only [colR, this], fun k => h.2.2.2 (sw m n k)⟩
theorem ren_Dl (hm : m < pin) (hn : n < pin) {hp : Hp} {b : Nat} (h : (cx B ρ col w hp).Dl b) : (cx B (ρR m n ρ) (colR m n col) w (hren m n hp)).Dl b := by
  refine ⟨h.1, fun k => h.2.1 (sw m n k), fun i j e => ?_⟩
  simp only [colR] at e
  split at e
  · rename_i k i' j' hc
    simp only [Option.some.injEq, Prod.mk.injEq] at e
    obtain ⟨e1, rfl, rfl⟩ := e
    have : k = limKey := by rw [sw_eq.1 e1]; exact sw_ge (p := pin) hm hn (by decide)
    subst this
    exact h.2.2 _ _ hc
  · cases e
mutual
theorem AVr.ren (hm : m < pin) (hn : n < pin) {hp : Hp} : ∀ (x : AV) (v : Value), AVr (cx B ρ col w hp) x v → AVr (cx B (ρR m n ρ) (colR m n col) w (hren m n hp)) (x.ren m n) v
  | .t x, v, hx => Rd.mono hx (fun _ _ => rfl) (fun b hb => ren_Dp hb)
  | .own _, _, hx => hx
  | .ls x none, v, hx => ⟨Rd.mono hx.1 (fun _ _ => rfl) (fun b hb => ren_Dl hm hn hb), trivial⟩
  | .ls x (some (k, i, j)), v, hx => by
    refine ⟨Rd.mono hx.1 (fun _ _ => rfl) (fun b hb => ren_Dl hm hn hb), ?_⟩
    obtain ⟨b, sz, rs, t1, t2, t3, t4, t5⟩ := hx.2
    have t2' : hget hp k = some (.rows sz rs) := t2
    exact ⟨b, sz, rs, by show ρ (sw m n (sw m n k)) = _; rw [sw_sw]; exact t1, by show hget (hren m n hp) _ = _; rw [hget_hren, sw_sw, t2']; rfl, t3, t4, t5⟩
  | .nils _, _, hx => hx
  | .agg cs, v, ⟨vs, e, hx⟩ => ⟨vs, e, AVrs.ren hm hn cs vs hx⟩
  | .tup cs, v, ⟨vs, e, hx⟩ => ⟨vs, e, AVrs.ren hm hn cs vs hx⟩
  | .refw k, v, ⟨sz, rs, h1, h2⟩ => by
    have h1' : hget hp k = some (.rows sz rs) := h1
    refine ⟨sz, rs, by show hget (hren m n hp) _ = _; rw [hget_hren, sw_sw, h1']; rfl, ?_⟩
    rcases h2 with ⟨b, cap, e, q, g1, g2, g3, g4, g5⟩ | h2
    · exact .inl ⟨b, cap, e, q, by show ρ (sw m n (sw m n k)) = _; rw [sw_sw]; exact g1, g2, g3, g4, g5⟩
    · exact .inr h2
  | .ref k o l, v, ⟨sz, rs, h1, h0, h2⟩ => by
    have h1' : hget hp k = some (.rows sz rs) := h1
    refine ⟨sz, rs, by show hget (hren m n hp) _ = _; rw [hget_hren, sw_sw, h1']; rfl, h0, ?_⟩
    rcases h2 with ⟨b, cap, g1, g2, g3⟩ | h2
    · exact .inl ⟨b, cap, by show ρ (sw m n (sw m n k)) = _; rw [sw_sw]; exact g1, g2, g3⟩
    · exact .inr h2
  | .ptr k i j, v, ⟨b, h1, h2⟩ => by
    refine ⟨b, by show ρ (sw m n (sw m n k)) = _; rw [sw_sw]; exact h1, ?_⟩
    have e : hget (cx B (ρR m n ρ) (colR m n col) w (hren m n hp)).hp (sw m n k) = (hget hp k).map (Blk.ren m n) := by show hget (hren m n hp) _ = _; rw [hget_hren, sw_sw]
    rw [e]
    have h2' : match hget hp k with
      | some (.box _) => v = .pointer (some ⟨b, j, none⟩) ∧ i = 0
      | some (.rows sz _) => v = .pointer (some ⟨b, i * sz + j, none⟩)
      | none => False := h2
    revert h2'
    cases hget hp k with
    | none => exact id
    | some blk => cases blk <;> exact id
  | .rop false row j, v, ⟨b, off, h1, h2, h3⟩ => by
    simp only [Bool.false_eq_true, if_false] at h2 h3
    refine ⟨b, off, h1, by simpa using ren_Dp h2, fun q x hq => ?_⟩
    obtain ⟨u, h4, h5⟩ := h3 q x hq
    exact ⟨u, h4, by simp only [Bool.false_eq_true, if_false]; exact h5.mono (fun _ _ => rfl) (fun b hb => ren_Dp hb)⟩
  | .rop true row j, v, ⟨b, off, h1, h2, h3⟩ => by
    simp only [if_true] at h2 h3
    refine ⟨b, off, h1, by simpa using ren_Dl hm hn h2, fun q x hq => ?_⟩
    obtain ⟨u, h4, h5⟩ := h3 q x hq
    exact ⟨u, h4, by simp only [if_true]; exact h5.mono (fun _ _ => rfl) (fun b hb => ren_Dl hm hn hb)⟩
  | .fn f cap, v, ⟨vs, e, hx⟩ => ⟨vs, e, AVrs.ren hm hn cap vs hx⟩
  | .skip, _, hx => hx
  | .undef, _, _ => trivial
theorem AVrs.ren (hm : m < pin) (hn : n < pin) {hp : Hp} : ∀ (xs : List AV) (vs : List Value), AVr.AVrs (cx B ρ col w hp) xs vs → AVr.AVrs (cx B (ρR m n ρ) (colR m n col) w (hren m n hp)) (AV.ren.rens m n xs) vs
  | [], [], _ => trivial
  | x :: xs, v :: vs, hx => ⟨AVr.ren hm hn x v hx.1, AVrs.ren hm hn xs vs hx.2⟩
  | [], _ :: _, hx => hx
  | _ :: _, [], hx => hx
end
theorem SimR.ren (h : SimR B ρ col s a w) (hm : m < pin) (hn : n < pin) : SimR B (ρR m n ρ) (colR m n col) (s.ren m n) a w := by
  refine ⟨h.defers, by simp [St.ren, rens_length, h.len], h.keep, fun i => ?_, fun k b hb => ?_, fun k hk => ?_, fun k k' b h1 h2 => sw_inj (h.inj _ _ b h1 h2), fun k b hb => ?_, fun k b hb => h.lab _ b hb, fun b p hb => ?_, fun k hk => ?_, ?_⟩
  · simp only [St.ren, gt_rens]
    exact AVr.ren hm hn _ _ (h.tm i)
  · have hb1 : hget (hren m n s.hp) k = some b := hb
    rw [hget_hren] at hb1
    obtain ⟨b0, e0, rfl⟩ := Option.map_eq_some_iff.1 hb1
    have := h.hp _ b0 e0
    cases b0 with
    | box cs =>
      obtain ⟨g, vs, e, fr, e1, e2, e3, e4⟩ := this
      exact ⟨g, vs, e, fr, e1, e2, e3, AVrs.ren hm hn cs vs e4⟩
    | rows sz rs =>
      obtain ⟨r1, r2⟩ := this
      refine ⟨r1, ?_⟩
      rcases r2 with ⟨g, cells, e, fr, u, q1, q2, q3, q4, q5, q6⟩ | ⟨q1, q2⟩
      · refine .inl ⟨g, cells, e, fr, u, q1, q2, q3, q4, q5, fun i r j x hi hj => Own.mono (q6 i r j x hi hj) (fun _ _ => rfl) (fun b hb => ren_Dp hb) (fun _ _ => rfl) (fun b hb => ?_)⟩
        simp only [colR, hb, sw_sw]
      · exact .inr ⟨q1, q2⟩
  · have hk1 : hget (hren m n s.hp) k = none := hk
    rw [hget_hren, Option.map_eq_none_iff] at hk1
    exact h.dom _ hk1
  · have := h.sep _ b hb
    simp only [colR, this]
  · simp only [colR] at hb
    split at hb
    · rename_i hc; exact h.colb b _ hc
    · cases hb
  · show ρ (sw m n k) = _
    rw [sw_ge hm hn hk]; exact h.pins k hk
  · show hget (hren m n s.hp) limKey = none
    rw [hget_hren, sw_ge (p := pin) hm hn (by decide), h.nolim]; rfl
theorem LeS.ren (s : St) (hm : m < pin) (hn : n < pin) : LeS s (s.ren m n) := fun B a w ⟨ρ, col, h⟩ => ⟨_, _, h.ren hm hn⟩
def St.rens (s : St) : List (Nat × Nat) → St
  | [] => s
  | p :: l => (s.ren p.1 p.2).rens l
theorem LeS.rens : ∀ (l : List (Nat × Nat)) (s : St), (l.all fun p => decide (p.1 < pin) && decide (p.2 < pin)) = true → LeS s (s.rens l)
  | [], s, _ => LeS.refl s
  | p :: l, s, h => by
    simp only [List.all_cons, Bool.and_eq_true, decide_eq_true_eq] at h
    exact (LeS.ren s h.1.1 h.1.2).trans (LeS.rens l _ h.2)
end
def emp (h : Hp) : AV → AV
  | .refw k => match hget h k with
    | some (.rows sz []) => .t (.list false sz [])
    | _ => .refw k
  | .nils sz => .t (.list false sz [])
  | x => x
theorem emp_r {c : Cx} {x : AV} {v : Value} (h : AVr c x v) : AVr c (emp c.hp x) v := by
  unfold emp
  split
  · rename_i k
    split
    · rename_i sz hk
      obtain ⟨sz', rs, h1, h2⟩ := h
      rw [hk] at h1; cases h1
      rcases h2 with ⟨b, cap, e, q, g1, rfl, _⟩ | ⟨_, a, rfl⟩
      · exact .nil ..
      · exact .nil ..
    · exact h
  · have h' : v = .slice none 0 0 := h
    subst h'
    exact .nil ..
  · exact h
def empT (s : St) : List Nat → St
  | [] => s
  | i :: l => empT ⟨pt s.tm i (emp s.hp (gt s.tm i)), s.hp⟩ l
theorem pt_len : ∀ (l : List AV) (i : Nat) (v : AV), (pt l i v).length = l.length
  | [], _, _ => rfl
  | a :: l, 0, v => rfl
  | a :: l, i + 1, v => by simp [pt, pt_len l i v]
theorem emp_le (s : St) (i : Nat) : LeS s ⟨pt s.tm i (emp s.hp (gt s.tm i)), s.hp⟩ := fun B a w ⟨ρ, col, h⟩ => ⟨ρ, col, ⟨h.defers, by rw [pt_len]; exact h.len, h.keep, fun j => by
    show AVr (cx B ρ col w s.hp) (gt (pt s.tm i (emp s.hp (gt s.tm i))) j) _
    rw [gt_pt]
    split
    · rename_i e; rw [e.1]; exact emp_r (h.tm i)
    · exact h.tm j, h.hp, h.dom, h.inj, h.sep, h.lab, h.colb, h.pins, h.nolim⟩⟩
theorem empT_le : ∀ (l : List Nat) (s : St), LeS s (empT s l)
  | [], s => LeS.refl s
  | i :: l, s => LeS.trans (emp_le s i) (empT_le l _)
theorem LoopW.empT {body : (Exit → St → Prop) → St → Prop} {K : Exit → St → Prop} {s s0 : St} (l : List Nat) (h : Am.empT s l = s0) (hl : LoopW body K s0) : LoopW body K s := hl.le (h ▸ empT_le l s)
def nilT (s : St) : List (Nat × Nat) → Option St
  | [] => some s
  | (k, j) :: l => match hget s.hp k with
    | some (.box cs) => match gt cs j with
      | .nils sz => nilT ⟨s.tm, hput s.hp k (.box (pt cs j (.t (.list false sz []))))⟩ l
      | _ => none
    | _ => none
theorem nilT_le : ∀ {l : List (Nat × Nat)} {s s' : St}, nilT s l = some s' → LeS s s'
  | [], s, s', h => by simp [nilT] at h; subst h; exact LeS.refl _
  | (k, j) :: l, s, s', h => by
    unfold nilT at h
    split at h
    · rename_i cs hk
      split at h
      · rename_i sz hz
        refine LeS.trans ?_ (nilT_le h)
        rintro B a w ⟨ρ, col, hs⟩
        have hgp : ∀ n, hget (hput s.hp k (.box (pt cs j (.t (.list false sz []))))) n = if k = n then some (.box (pt cs j (.t (.list false sz [])))) else hget s.hp n := by
          intro n; rw [hget_hput]
        have hle : (cx B ρ col w s.hp).le (cx B ρ col w (hput s.hp k (.box (pt cs j (.t (.list false sz [])))))) fun _ => True := by
          refine ⟨fun _ _ _ => rfl, fun n b _ hb => ?_, fun b hb => ⟨hb, rfl⟩, fun b hb => ⟨hb, rfl⟩, fun _ _ _ _ => rfl, fun _ _ _ _ _ => rfl⟩
          have hb' : hget s.hp n = some b := hb
          show ∃ b', hget (hput s.hp k (.box (pt cs j (.t (.list false sz []))))) n = some b' ∧ _
          rw [hgp]
          split
          · rename_i e; subst e; rw [hk] at hb'; cases hb'; exact ⟨_, rfl, trivial⟩
          · exact ⟨b, hb', blk_sim_refl b⟩
        refine ⟨ρ, col, ⟨hs.defers, hs.len, hs.keep, fun i => AVr.mono hle _ _ (hs.tm i), fun n b hb => ?_, fun n hn => ?_, hs.inj, hs.sep, hs.lab, hs.colb, hs.pins, by rw [hgp, if_neg (fun e => by rw [e, hs.nolim] at hk; cases hk), hs.nolim]⟩⟩
        · have hb1 := hb
          simp only at hb1
          rw [hgp] at hb1
          split at hb1
          · rename_i e; subst e; cases hb1
            obtain ⟨b, vs, e, fr, f1, f2, f3, f4⟩ := hs.hp k _ hk
            refine ⟨b, vs, e, fr, f1, f2, f3, AVrs_pt (AVrs.mono hle _ _ f4) (fun u hu => ?_)⟩
            rw [hz] at hu
            have hu' : u = .slice none 0 0 := hu
            subst hu'
            exact .nil ..
          · exact (hs.hp n b hb1).mono hle rfl (fun _ _ => rfl) (fun _ _ _ h => ⟨h, rfl⟩)
        · have hn1 := hn
          simp only at hn1
          rw [hgp] at hn1
          split at hn1
          · cases hn1
          · exact hs.dom n hn1
      · cases h
    · cases h
theorem LoopW.nilT {body : (Exit → St → Prop) → St → Prop} {K : Exit → St → Prop} {s s0 : St} (l : List (Nat × Nat)) (h : Am.nilT s l = some s0) (hl : LoopW body K s0) : LoopW body K s := hl.le (nilT_le h)
attribute [go_sem] emp empT nilT sw AV.ren AV.ren.rens Blk.ren hren St.ren St.rens shareC shareCs shareV shareVs shareR
end Go.Proofs.YtcpfhonmdbhdbaaGreatDoor.Am
namespace Go.Proofs.YtcpfhonmdbhdbaaGreatDoor.Am
open Go
set_option linter.unusedVariables false
def wSum {α : Type} (w : α → Nat) (l : List α) : Nat := (l.map w).sum
def wAll {α : Type} (w : α → Nat) (l : List α) : Nat := l.length + wSum w l
def mkAll {α : Type} (m : α → Int → α) (w : α → Nat) : List α → Int → List α
  | [], _ => []
  | x :: xs, k => m x k :: mkAll m w xs (k + w x)
end Go.Proofs.YtcpfhonmdbhdbaaGreatDoor.Am
namespace Go.Proofs.YtcpfhonmdbhdbaaGreatDoor.Am
open Go
@[ext] structure Pr where
  k : ByteArray
  v : ByteArray
deriving DecidableEq
@[ext] structure Idt where
  t : Int
  n : Int
deriving DecidableEq
@[ext] structure It where
  id : Idt
  fields : List Pr
deriving DecidableEq
@[ext] structure Wt where
  id : Idt
  who : ByteArray
  at' : Int
  tm : Int
deriving DecidableEq
@[ext] structure Gr where
  name : ByteArray
  last : Idt
  waits : List Wt
deriving DecidableEq
@[ext] structure Stm where
  last : Idt
  items : List It
  groups : List Gr
deriving DecidableEq
def Pr.row (x : Pr) : List T := [.str x.k, .str x.v]
def It.row (x : It) : List T := [.int .i64 x.id.t, .int .i64 x.id.n, .list false 2 (x.fields.map Pr.row)]
def Wt.row (x : Wt) : List T := [.int .i64 x.id.t, .int .i64 x.id.n, .str x.who, .int .i64 x.at', .int .i64 x.tm]
def Gr.row (x : Gr) : List T := [.str x.name, .int .i64 x.last.t, .int .i64 x.last.n, .list false 5 (x.waits.map Wt.row)]
def It.rowO (x : It) : List T := [.int .i64 x.id.t, .int .i64 x.id.n, .list true 2 (x.fields.map Pr.row)]
def Gr.rowO (x : Gr) : List T := [.str x.name, .int .i64 x.last.t, .int .i64 x.last.n, .list true 5 (x.waits.map Wt.row)]
def It.sm (x : It) : Prop := x.fields.length < 4611686018427387904
def Gr.sm (x : Gr) : Prop := x.waits.length < 4611686018427387904
def Stm.sm (x : Stm) : Prop := x.items.length < 4611686018427387904 ∧ x.groups.length < 4611686018427387904 ∧ (∀ i ∈ x.items, i.sm) ∧ ∀ g ∈ x.groups, g.sm
def Pr.w (x : Pr) : Nat := x.k.size + x.v.size
def It.w (x : It) : Nat := wAll Pr.w x.fields
def Wt.w (x : Wt) : Nat := x.who.size
def Gr.w (x : Gr) : Nat := x.name.size + wAll Wt.w x.waits
def Stm.w (x : Stm) : Nat := wAll It.w x.items + wAll Gr.w x.groups
def ts (l : List T) : List AV := l.map .t
abbrev Pr.av (x : Pr) : AV := .agg [.t (.str x.k), .t (.str x.v)]
abbrev Idt.av (x : Idt) : AV := .agg [I x.t, I x.n]
abbrev It.av (x : It) : AV := .agg [I x.id.t, I x.id.n, .t (.list false 2 (x.fields.map Pr.row))]
abbrev Wt.av (x : Wt) : AV := .agg [I x.id.t, I x.id.n, .t (.str x.who), I x.at', I x.tm]
abbrev Gr.av (x : Gr) : AV := .agg [.t (.str x.name), I x.last.t, I x.last.n, .t (.list false 5 (x.waits.map Wt.row))]
abbrev Stm.av (x : Stm) : AV := .agg [I x.last.t, I x.last.n, .t (.list false 3 (x.items.map It.row)), .t (.list false 4 (x.groups.map Gr.row))]
theorem bytesEq_iff (a b : ByteArray) : bytesEq a b = decide (a = b) := by
  unfold bytesEq
  rw [ByteArray.toList_eq, ByteArray.toList_eq]
  obtain ⟨⟨x⟩⟩ := a
  obtain ⟨⟨y⟩⟩ := b
  by_cases h : x = y
  · subst h; simp
  · have h1 : (x == y) = false := by simpa using h
    simp [h, h1]
theorem mk_rows {α : Type} (f : α → List T) (h : ∀ x, (f x).map (T.mk false) = f x) (l : List α) : (l.map f).map (List.map (T.mk false)) = l.map f := by
  rw [List.map_map]
  exact List.map_congr_left fun x _ => h x
theorem Pr.mk_rows (l : List Pr) : (l.map Pr.row).map (List.map (T.mk false)) = l.map Pr.row := Am.mk_rows _ (fun _ => rfl) l
theorem Wt.mk_rows (l : List Wt) : (l.map Wt.row).map (List.map (T.mk false)) = l.map Wt.row := Am.mk_rows _ (fun _ => rfl) l
theorem It.mk_rows (l : List It) : (l.map It.row).map (List.map (T.mk false)) = l.map It.row := Am.mk_rows _ (fun x => by simp only [It.row, List.map_cons, List.map_nil, T.mk_list, T.mk_int, Pr.mk_rows]) l
theorem Gr.mk_rows (l : List Gr) : (l.map Gr.row).map (List.map (T.mk false)) = l.map Gr.row := Am.mk_rows _ (fun x => by simp only [Gr.row, List.map_cons, List.map_nil, T.mk_list, T.mk_int, T.mk_str, Wt.mk_rows]) l
attribute [go_sem] bytesEq_iff Pr.mk_rows Wt.mk_rows It.mk_rows Gr.mk_rows
end Go.Proofs.YtcpfhonmdbhdbaaGreatDoor.Am
namespace Go.Proofs.YtcpfhonmdbhdbaaGreatDoor.Am
open Go
set_option maxRecDepth 100000
set_option linter.unusedSimpArgs false
set_option linter.unusedVariables false
def Idt.row (x : Idt) : List T := [.int .i64 x.t, .int .i64 x.n]
def lG {α : Type} (G : α → Prop) (xs : List α) : Prop := xs.length ≤ 140737488351232 ∧ ∀ x ∈ xs, G x
def Pr.G (x : Pr) : Prop := x.k.size ≤ 140737488351232 ∧ x.v.size ≤ 140737488351232
def It.G (x : It) : Prop := lG Pr.G x.fields
def Wt.G (x : Wt) : Prop := x.who.size ≤ 140737488351232
def Gr.G (x : Gr) : Prop := x.name.size ≤ 140737488351232 ∧ lG Wt.G x.waits
def Stm.G (x : Stm) : Prop := lG It.G x.items ∧ lG Gr.G x.groups
end Go.Proofs.YtcpfhonmdbhdbaaGreatDoor.Am
namespace Go.Proofs.YtcpfhonmdbhdbaaGreatDoor.Am
open Go
set_option maxRecDepth 100000
set_option linter.unusedSimpArgs false
set_option linter.unusedVariables false
abbrev Tx := ByteArray
abbrev Or := List Tx
def Tx.row (x : Tx) : List T := [.str x]
def Tx.w (x : Tx) : Nat := x.size
def Or.row (x : Or) : List T := [.list false 1 (x.map Tx.row)]
def Or.rowO (x : Or) : List T := [.list true 1 (x.map Tx.row)]
def Or.w (x : Or) : Nat := wAll Tx.w x
def Tx.G (x : Tx) : Prop := x.size ≤ 140737488351232
def Or.G (x : Or) : Prop := lG Tx.G x
@[ext] structure Sc where
  text : ByteArray
  num : Int
deriving DecidableEq
@[ext] structure En where
  key : ByteArray
  till : Int
  kind : Int
  text : ByteArray
  list : List Tx
  scores : List Sc
  fields : List Pr
deriving DecidableEq
@[ext] structure Bs where
  now : Int
  ents : List En
deriving DecidableEq
@[ext] structure Cl where
  multi : Bool
  wrong : Bool
  queue : List Or
  watch : List Tx
  touch : Bool
  hears : List Tx
deriving DecidableEq
@[ext] structure Sv where
  base : Bs
  file : ByteArray
  cls : List Cl
deriving DecidableEq
@[ext] structure Ld where
  srv : Sv
  hist : Int
deriving DecidableEq
@[ext] structure Fo where
  hist : Int
  text : ByteArray
  base : Bs
deriving DecidableEq
@[ext] structure Pac where
  full : Bool
  hist : Int
  pos : Int
  text : ByteArray
  now : Int
deriving DecidableEq
def Sc.row (x : Sc) : List T := [.str x.text, .int .i64 x.num]
abbrev Sc.av (x : Sc) : AV := .agg [.t (.str x.text), I x.num]
def Sc.w (x : Sc) : Nat := x.text.size
def Sc.G (x : Sc) : Prop := x.text.size ≤ 140737488351232
def En.row (x : En) : List T := [.str x.key, .int .i64 x.till, .int .i64 x.kind, .str x.text, .list false 1 (x.list.map Tx.row), .list false 2 (x.scores.map Sc.row), .list false 2 (x.fields.map Pr.row)]
def En.rowO (x : En) : List T := [.str x.key, .int .i64 x.till, .int .i64 x.kind, .str x.text, .list true 1 (x.list.map Tx.row), .list true 2 (x.scores.map Sc.row), .list true 2 (x.fields.map Pr.row)]
abbrev En.av (x : En) : AV := .agg [.t (.str x.key), I x.till, I x.kind, .t (.str x.text), .t (.list false 1 (x.list.map Tx.row)), .t (.list false 2 (x.scores.map Sc.row)), .t (.list false 2 (x.fields.map Pr.row))]
abbrev En.avO (x : En) : AV := .agg [.t (.str x.key), I x.till, I x.kind, .t (.str x.text), .own (.list true 1 (x.list.map Tx.row)), .own (.list true 2 (x.scores.map Sc.row)), .own (.list true 2 (x.fields.map Pr.row))]
def En.w (x : En) : Nat := x.key.size + x.text.size + wAll Tx.w x.list + wAll Sc.w x.scores + wAll Pr.w x.fields
def En.G (x : En) : Prop := x.key.size ≤ 140737488351232 ∧ x.text.size ≤ 140737488351232 ∧ lG Tx.G x.list ∧ lG Sc.G x.scores ∧ lG Pr.G x.fields
def Bs.row (x : Bs) : List T := [.int .i64 x.now, .list false 7 (x.ents.map En.row)]
def Bs.rowO (x : Bs) : List T := [.int .i64 x.now, .list true 7 (x.ents.map En.rowO)]
abbrev Bs.av (x : Bs) : AV := .agg [I x.now, .t (.list false 7 (x.ents.map En.row))]
abbrev Bs.avO (x : Bs) : AV := .agg [I x.now, .own (.list true 7 (x.ents.map En.rowO))]
def Bs.w (x : Bs) : Nat := wAll En.w x.ents
def Bs.G (x : Bs) : Prop := lG En.G x.ents
def Cl.row (x : Cl) : List T := [.bool x.multi, .bool x.wrong, .list false 1 (x.queue.map Or.row), .list false 1 (x.watch.map Tx.row), .bool x.touch, .list false 1 (x.hears.map Tx.row)]
def Cl.rowO (x : Cl) : List T := [.bool x.multi, .bool x.wrong, .list true 1 (x.queue.map Or.rowO), .list true 1 (x.watch.map Tx.row), .bool x.touch, .list true 1 (x.hears.map Tx.row)]
abbrev Cl.av (x : Cl) : AV := .agg [Bo x.multi, Bo x.wrong, .t (.list false 1 (x.queue.map Or.row)), .t (.list false 1 (x.watch.map Tx.row)), Bo x.touch, .t (.list false 1 (x.hears.map Tx.row))]
abbrev Cl.avO (x : Cl) : AV := .agg [Bo x.multi, Bo x.wrong, .own (.list true 1 (x.queue.map Or.rowO)), .own (.list true 1 (x.watch.map Tx.row)), Bo x.touch, .own (.list true 1 (x.hears.map Tx.row))]
def Cl.w (x : Cl) : Nat := wAll Or.w x.queue + wAll Tx.w x.watch + wAll Tx.w x.hears
def Cl.G (x : Cl) : Prop := lG Or.G x.queue ∧ lG Tx.G x.watch ∧ lG Tx.G x.hears
def Sv.row (x : Sv) : List T := [.int .i64 x.base.now, .list false 7 (x.base.ents.map En.row), .str x.file, .list false 6 (x.cls.map Cl.row)]
def Sv.rowO (x : Sv) : List T := [.int .i64 x.base.now, .list true 7 (x.base.ents.map En.rowO), .str x.file, .list true 6 (x.cls.map Cl.rowO)]
abbrev Sv.av (x : Sv) : AV := .agg [I x.base.now, .t (.list false 7 (x.base.ents.map En.row)), .t (.str x.file), .t (.list false 6 (x.cls.map Cl.row))]
abbrev Sv.avO (x : Sv) : AV := .agg [I x.base.now, .own (.list true 7 (x.base.ents.map En.rowO)), .t (.str x.file), .own (.list true 6 (x.cls.map Cl.rowO))]
def Sv.w (x : Sv) : Nat := Bs.w x.base + x.file.size + wAll Cl.w x.cls
def Sv.G (x : Sv) : Prop := Bs.G x.base ∧ x.file.size ≤ 140737488351232 ∧ lG Cl.G x.cls
def Ld.row (x : Ld) : List T := [.int .i64 x.srv.base.now, .list false 7 (x.srv.base.ents.map En.row), .str x.srv.file, .list false 6 (x.srv.cls.map Cl.row), .int .i64 x.hist]
def Ld.rowO (x : Ld) : List T := [.int .i64 x.srv.base.now, .list true 7 (x.srv.base.ents.map En.rowO), .str x.srv.file, .list true 6 (x.srv.cls.map Cl.rowO), .int .i64 x.hist]
abbrev Ld.av (x : Ld) : AV := .agg [I x.srv.base.now, .t (.list false 7 (x.srv.base.ents.map En.row)), .t (.str x.srv.file), .t (.list false 6 (x.srv.cls.map Cl.row)), I x.hist]
abbrev Ld.avO (x : Ld) : AV := .agg [I x.srv.base.now, .own (.list true 7 (x.srv.base.ents.map En.rowO)), .t (.str x.srv.file), .own (.list true 6 (x.srv.cls.map Cl.rowO)), I x.hist]
def Ld.w (x : Ld) : Nat := Sv.w x.srv
def Ld.G (x : Ld) : Prop := Sv.G x.srv
def Fo.row (x : Fo) : List T := [.int .i64 x.hist, .str x.text, .int .i64 x.base.now, .list false 7 (x.base.ents.map En.row)]
def Fo.rowO (x : Fo) : List T := [.int .i64 x.hist, .str x.text, .int .i64 x.base.now, .list true 7 (x.base.ents.map En.rowO)]
abbrev Fo.av (x : Fo) : AV := .agg [I x.hist, .t (.str x.text), I x.base.now, .t (.list false 7 (x.base.ents.map En.row))]
abbrev Fo.avO (x : Fo) : AV := .agg [I x.hist, .t (.str x.text), I x.base.now, .own (.list true 7 (x.base.ents.map En.rowO))]
def Fo.w (x : Fo) : Nat := x.text.size + Bs.w x.base
def Fo.G (x : Fo) : Prop := x.text.size ≤ 140737488351232 ∧ Bs.G x.base
def Pac.row (x : Pac) : List T := [.bool x.full, .int .i64 x.hist, .int .i64 x.pos, .str x.text, .int .i64 x.now]
abbrev Pac.av (x : Pac) : AV := .agg [Bo x.full, I x.hist, I x.pos, .t (.str x.text), I x.now]
def Pac.w (x : Pac) : Nat := x.text.size
def Pac.G (x : Pac) : Prop := x.text.size ≤ 140737488351232
def Or.sm (x : Or) : Prop := x.length < 4611686018427387904
def En.sm (x : En) : Prop := x.list.length < 4611686018427387904 ∧ x.scores.length < 4611686018427387904 ∧ x.fields.length < 4611686018427387904
def Bs.sm (x : Bs) : Prop := x.ents.length < 4611686018427387904 ∧ (∀ y ∈ x.ents, En.sm y)
def Cl.sm (x : Cl) : Prop := x.queue.length < 4611686018427387904 ∧ (∀ y ∈ x.queue, Or.sm y) ∧ x.watch.length < 4611686018427387904 ∧ x.hears.length < 4611686018427387904
def Sv.sm (x : Sv) : Prop := Bs.sm x.base ∧ x.cls.length < 4611686018427387904 ∧ (∀ y ∈ x.cls, Cl.sm y)
def Ld.sm (x : Ld) : Prop := Sv.sm x.srv
def Fo.sm (x : Fo) : Prop := Bs.sm x.base
theorem Tx.mk_rows (l : List Tx) : (l.map Tx.row).map (List.map (T.mk false)) = l.map Tx.row := Am.mk_rows _ (fun _ => rfl) l
theorem Or.mk_rows (l : List Or) : (l.map Or.row).map (List.map (T.mk false)) = l.map Or.row := Am.mk_rows _ (fun x => by simp only [Or.row, List.map_cons, List.map_nil, T.mk_list, T.mk_int, T.mk_str, T.mk_bool, Pr.mk_rows, Tx.mk_rows]) l
theorem Or.mk_rowsO (l : List Or) : (l.map Or.rowO).map (List.map (T.mk false)) = l.map Or.row := by
  rw [List.map_map]; exact List.map_congr_left fun x _ => by simp only [Function.comp, Or.rowO, Or.row, List.map_cons, List.map_nil, T.mk_list, T.mk_int, T.mk_str, T.mk_bool, Pr.mk_rows, Tx.mk_rows]
theorem Sc.mk_rows (l : List Sc) : (l.map Sc.row).map (List.map (T.mk false)) = l.map Sc.row := Am.mk_rows _ (fun x => by simp only [Sc.row, List.map_cons, List.map_nil, T.mk_list, T.mk_int, T.mk_str, T.mk_bool, Pr.mk_rows, Tx.mk_rows, Or.mk_rows]) l
theorem En.mk_rows (l : List En) : (l.map En.row).map (List.map (T.mk false)) = l.map En.row := Am.mk_rows _ (fun x => by simp only [En.row, List.map_cons, List.map_nil, T.mk_list, T.mk_int, T.mk_str, T.mk_bool, Pr.mk_rows, Tx.mk_rows, Or.mk_rows, Sc.mk_rows]) l
theorem En.mk_rowsO (l : List En) : (l.map En.rowO).map (List.map (T.mk false)) = l.map En.row := by
  rw [List.map_map]; exact List.map_congr_left fun x _ => by simp only [Function.comp, En.rowO, En.row, List.map_cons, List.map_nil, T.mk_list, T.mk_int, T.mk_str, T.mk_bool, Pr.mk_rows, Tx.mk_rows, Or.mk_rows, Sc.mk_rows, Or.mk_rowsO]
theorem Cl.mk_rows (l : List Cl) : (l.map Cl.row).map (List.map (T.mk false)) = l.map Cl.row := Am.mk_rows _ (fun x => by simp only [Cl.row, List.map_cons, List.map_nil, T.mk_list, T.mk_int, T.mk_str, T.mk_bool, Pr.mk_rows, Tx.mk_rows, Or.mk_rows, Sc.mk_rows, En.mk_rows]) l
theorem Cl.mk_rowsO (l : List Cl) : (l.map Cl.rowO).map (List.map (T.mk false)) = l.map Cl.row := by
  rw [List.map_map]; exact List.map_congr_left fun x _ => by simp only [Function.comp, Cl.rowO, Cl.row, List.map_cons, List.map_nil, T.mk_list, T.mk_int, T.mk_str, T.mk_bool, Pr.mk_rows, Tx.mk_rows, Or.mk_rows, Sc.mk_rows, En.mk_rows, Or.mk_rowsO, En.mk_rowsO]
attribute [go_sem] Tx.mk_rows Or.mk_rows Or.mk_rowsO Sc.mk_rows En.mk_rows En.mk_rowsO Cl.mk_rows Cl.mk_rowsO
end Go.Proofs.YtcpfhonmdbhdbaaGreatDoor.Am
namespace Go.Proofs.YtcpfhonmdbhdbaaGreatDoor.Am
open Go
set_option maxRecDepth 100000
set_option maxHeartbeats 2000000
set_option linter.unusedSimpArgs false
set_option linter.unusedVariables false
theorem p_qxTexts : Plain Tryz.prog 50 := ⟨_, Tryz.func50, rfl, by decide⟩
theorem s_qxTexts (xs ys : List Tx) (hx : xs.length < 4611686018427387904) : Spec Tryz.prog 50 [.t (.list false 1 (xs.map Tx.row)), .t (.list false 1 (ys.map Tx.row))] (fun r => r = Bo (decide (xs = ys))) := by
  refine Spec.of tysOk mixed Tryz.func50 rfl (by decide) ?_
  simp -implicitDefEqProofs only [go_sem, Tryz.f50]
  refine BrA_i (fun h => ?_) (fun h => ?_) <;> simp -implicitDefEqProofs only [go_sem]
  · have hl : xs.length = ys.length := by have := of_decide_eq_true h; omega
    refine LoopW.slotsM [true, true, false, false, false, true, false, false, false, false, false, false, false, false, false, false, false, false, false, false, false, false, false, false, false, false] (α := Nat) (fun i => [(5, I i)]) (fun _ => []) (fun i => xs.length - i) (fun i => i ≤ xs.length ∧ ∀ j (h : j < xs.length), j < i → xs[j] = ys[j]) 0 (by simp -implicitDefEqProofs only [go_sem, LeTs_undef, LeTs_same, LeTs_nil]; try simp [LeTs]) rfl (by simp) ?_
    rintro i ⟨hi, hz⟩
    simp -implicitDefEqProofs only [go_sem]
    refine BrA_i (fun h => ?_) (fun h => ?_) <;> simp -implicitDefEqProofs only [go_sem]
    · have h : i < xs.length := by simp at h; omega
      have h' : i < ys.length := by omega
      have h0i : (0 : Int) ≤ i := by omega
      have h1i : (i : Int) < xs.length := by omega
      have h2i : (i : Int) < ys.length := by omega
      have wi : IntKind.i64.wrap ((i : Int) + 1) = ((i + 1 : Nat) : Int) := by rw [wrap64 (by omega) (by omega)]; omega
      have r1 := row_getD Tx.row xs h
      have r2 := row_getD Tx.row ys h'
      try simp only [Tx.row] at r1 r2
      refine RegD_of sch_50_6 tysOk (by kernel_rfl) ?_
      simp -implicitDefEqProofs only [go_sem, h0i, h1i, h2i, r1, r2, h, h']
      refine BrA_i (fun he => ?_) (fun he => ?_) <;> simp -implicitDefEqProofs only [go_sem, wi]
      · have he' : xs[i] = ys[i] := by
          simpa using he
        refine .to [] (i + 1) rfl ?_ ?_ (by omega) ⟨h, fun j hj hl => ?_⟩ <;> (try simp -implicitDefEqProofs only [go_sem, LeTs_undef, LeTs_same, LeTs_nil])
        rcases Nat.lt_succ_iff_lt_or_eq.1 hl with hl | rfl
        · exact hz j hj hl
        · exact he'
      · have : xs ≠ ys := fun e => by subst e; simp at he
        simp [this]
    · have : xs = ys := List.ext_getElem hl fun j h1 h2 => hz j h1 (by simp at h; omega)
      simp [this]
  · have : xs ≠ ys := fun e => by subst e; simp at h
    simp [this]
theorem p_qxScores : Plain Tryz.prog 73 := ⟨_, Tryz.func73, rfl, by decide⟩
theorem s_qxScores (xs ys : List Sc) (hx : xs.length < 4611686018427387904) : Spec Tryz.prog 73 [.t (.list false 2 (xs.map Sc.row)), .t (.list false 2 (ys.map Sc.row))] (fun r => r = Bo (decide (xs = ys))) := by
  refine Spec.of tysOk mixed Tryz.func73 rfl (by decide) ?_
  simp -implicitDefEqProofs only [go_sem, Tryz.f73]
  refine BrA_i (fun h => ?_) (fun h => ?_) <;> simp -implicitDefEqProofs only [go_sem]
  · have hl : xs.length = ys.length := by have := of_decide_eq_true h; omega
    refine LoopW.slotsM [true, true, false, false, false, true, false, false, false, false, false, false, false, false, false, false, false, false, false, false, false, false, false, false, false, false] (α := Nat) (fun i => [(5, I i)]) (fun _ => []) (fun i => xs.length - i) (fun i => i ≤ xs.length ∧ ∀ j (h : j < xs.length), j < i → xs[j] = ys[j]) 0 (by simp -implicitDefEqProofs only [go_sem, LeTs_undef, LeTs_same, LeTs_nil]; try simp [LeTs]) rfl (by simp) ?_
    rintro i ⟨hi, hz⟩
    simp -implicitDefEqProofs only [go_sem]
    refine BrA_i (fun h => ?_) (fun h => ?_) <;> simp -implicitDefEqProofs only [go_sem]
    · have h : i < xs.length := by simp at h; omega
      have h' : i < ys.length := by omega
      have h0i : (0 : Int) ≤ i := by omega
      have h1i : (i : Int) < xs.length := by omega
      have h2i : (i : Int) < ys.length := by omega
      have wi : IntKind.i64.wrap ((i : Int) + 1) = ((i + 1 : Nat) : Int) := by rw [wrap64 (by omega) (by omega)]; omega
      have r1 := row_getD Sc.row xs h
      have r2 := row_getD Sc.row ys h'
      try simp only [Sc.row] at r1 r2
      refine RegD_of sch_73_6 tysOk (by kernel_rfl) ?_
      simp -implicitDefEqProofs only [go_sem, h0i, h1i, h2i, r1, r2, h, h']
      refine BrA_i (fun he => ?_) (fun he => ?_) <;> simp -implicitDefEqProofs only [go_sem, wi]
      · have he' : xs[i] = ys[i] := by
          simp only [Bool.and_eq_true, decide_eq_true_eq] at he; exact Sc.ext he.1 he.2
        refine .to [] (i + 1) rfl ?_ ?_ (by omega) ⟨h, fun j hj hl => ?_⟩ <;> (try simp -implicitDefEqProofs only [go_sem, LeTs_undef, LeTs_same, LeTs_nil])
        rcases Nat.lt_succ_iff_lt_or_eq.1 hl with hl | rfl
        · exact hz j hj hl
        · exact he'
      · have : xs ≠ ys := fun e => by subst e; simp at he
        simp [this]
    · have : xs = ys := List.ext_getElem hl fun j h1 h2 => hz j h1 (by simp at h; omega)
      simp [this]
  · have : xs ≠ ys := fun e => by subst e; simp at h
    simp [this]
theorem p_qxFields : Plain Tryz.prog 74 := ⟨_, Tryz.func74, rfl, by decide⟩
theorem s_qxFields (xs ys : List Pr) (hx : xs.length < 4611686018427387904) : Spec Tryz.prog 74 [.t (.list false 2 (xs.map Pr.row)), .t (.list false 2 (ys.map Pr.row))] (fun r => r = Bo (decide (xs = ys))) := by
  refine Spec.of tysOk mixed Tryz.func74 rfl (by decide) ?_
  simp -implicitDefEqProofs only [go_sem, Tryz.f74]
  refine BrA_i (fun h => ?_) (fun h => ?_) <;> simp -implicitDefEqProofs only [go_sem]
  · have hl : xs.length = ys.length := by have := of_decide_eq_true h; omega
    refine LoopW.slotsM [true, true, false, false, false, true, false, false, false, false, false, false, false, false, false, false, false, false, false, false, false, false, false, false, false, false] (α := Nat) (fun i => [(5, I i)]) (fun _ => []) (fun i => xs.length - i) (fun i => i ≤ xs.length ∧ ∀ j (h : j < xs.length), j < i → xs[j] = ys[j]) 0 (by simp -implicitDefEqProofs only [go_sem, LeTs_undef, LeTs_same, LeTs_nil]; try simp [LeTs]) rfl (by simp) ?_
    rintro i ⟨hi, hz⟩
    simp -implicitDefEqProofs only [go_sem]
    refine BrA_i (fun h => ?_) (fun h => ?_) <;> simp -implicitDefEqProofs only [go_sem]
    · have h : i < xs.length := by simp at h; omega
      have h' : i < ys.length := by omega
      have h0i : (0 : Int) ≤ i := by omega
      have h1i : (i : Int) < xs.length := by omega
      have h2i : (i : Int) < ys.length := by omega
      have wi : IntKind.i64.wrap ((i : Int) + 1) = ((i + 1 : Nat) : Int) := by rw [wrap64 (by omega) (by omega)]; omega
      have r1 := row_getD Pr.row xs h
      have r2 := row_getD Pr.row ys h'
      try simp only [Pr.row] at r1 r2
      refine RegD_of sch_74_6 tysOk (by kernel_rfl) ?_
      simp -implicitDefEqProofs only [go_sem, h0i, h1i, h2i, r1, r2, h, h']
      refine BrA_i (fun he => ?_) (fun he => ?_) <;> simp -implicitDefEqProofs only [go_sem, wi]
      · have he' : xs[i] = ys[i] := by
          simp only [Bool.and_eq_true, decide_eq_true_eq] at he; exact Pr.ext he.1 he.2
        refine .to [] (i + 1) rfl ?_ ?_ (by omega) ⟨h, fun j hj hl => ?_⟩ <;> (try simp -implicitDefEqProofs only [go_sem, LeTs_undef, LeTs_same, LeTs_nil])
        rcases Nat.lt_succ_iff_lt_or_eq.1 hl with hl | rfl
        · exact hz j hj hl
        · exact he'
      · have : xs ≠ ys := fun e => by subst e; simp at he
        simp [this]
    · have : xs = ys := List.ext_getElem hl fun j h1 h2 => hz j h1 (by simp at h; omega)
      simp [this]
  · have : xs ≠ ys := fun e => by subst e; simp at h
    simp [this]
theorem p_qxEntry : Plain Tryz.prog 49 := ⟨_, Tryz.func49, rfl, by decide⟩
theorem s_qxEntry (x y : En) (hx : x.sm) : Spec Tryz.prog 49 [x.av, y.av] (fun r => r = Bo (decide (x = y))) := by
  refine Spec.of tysOk mixed Tryz.func49 rfl (by decide) ?_
  obtain ⟨x1, x2, x3⟩ := hx
  simp -implicitDefEqProofs only [go_sem, Tryz.f49]
  repeat' (first
    | (refine CallW.one (s_qxTexts x.list y.list x1) p_qxTexts (by first | (simp -implicitDefEqProofs only [go_sem]; done) | ((conv => lhs; simp -implicitDefEqProofs only [go_sem]); done) | (simp -implicitDefEqProofs only [go_sem]; rfl) | rfl) (by first | trivial | (simp [DeepR, DeepV, DeepVs, DeepC, DeepCs, T.scal]; done)) ?_; simp -implicitDefEqProofs only [go_sem])
    | (refine CallW.one (s_qxScores x.scores y.scores x2) p_qxScores (by first | (simp -implicitDefEqProofs only [go_sem]; done) | ((conv => lhs; simp -implicitDefEqProofs only [go_sem]); done) | (simp -implicitDefEqProofs only [go_sem]; rfl) | rfl) (by first | trivial | (simp [DeepR, DeepV, DeepVs, DeepC, DeepCs, T.scal]; done)) ?_; simp -implicitDefEqProofs only [go_sem])
    | (refine CallW.one (s_qxFields x.fields y.fields x3) p_qxFields (by first | (simp -implicitDefEqProofs only [go_sem]; done) | ((conv => lhs; simp -implicitDefEqProofs only [go_sem]); done) | (simp -implicitDefEqProofs only [go_sem]; rfl) | rfl) (by first | trivial | (simp [DeepR, DeepV, DeepVs, DeepC, DeepCs, T.scal]; done)) ?_; simp -implicitDefEqProofs only [go_sem])
    | (refine BrA_i (fun h => ?_) (fun h => ?_) <;> simp -implicitDefEqProofs only [go_sem]))
  all_goals (cases x; cases y; simp_all)
theorem p_qxBase : Plain Tryz.prog 34 := ⟨_, Tryz.func34, rfl, by decide⟩
theorem s_qxBase (x y : Bs) (hx : x.sm) : Spec Tryz.prog 34 [x.av, y.av] (fun r => r = Bo (decide (x = y))) := by
  refine Spec.of tysOk mixed Tryz.func34 rfl (by decide) ?_
  obtain ⟨x1, x2⟩ := hx
  simp -implicitDefEqProofs only [go_sem, Tryz.f34]
  have bad : x ≠ y → Bo false = Bo (decide (x = y)) := fun h => by simp [h]
  repeat' (first
    | (refine BrA_i (fun h => ?_) (fun h => ?_) <;> simp -implicitDefEqProofs only [go_sem]))
  any_goals (refine bad fun e => ?_; subst e; simp_all; done)
  · skip
    have hl : x.ents.length = y.ents.length := by simp_all; omega
    refine LoopW.slotsM [false, false, true, true, false, true, false, false, false, false, false, false, false, false, false, false, false, false, false, false, false, false, false, false, false, false, false, false, false, false, false, false, false, false, false, false, false, false, false] (α := Nat) (fun i => [(5, I i)]) (fun _ => [(16, .box [I x.now, .t (.list false 7 (x.ents.map En.row))]), (24, .box [I y.now, .t (.list false 7 (y.ents.map En.row))])]) (fun i => x.ents.length - i) (fun i => i ≤ x.ents.length ∧ ∀ j (h : j < x.ents.length), j < i → x.ents[j] = y.ents[j]) 0 (by simp -implicitDefEqProofs only [go_sem, LeTs_undef, LeTs_same, LeTs_nil]; try simp [LeTs]) rfl (by simp) ?_
    rintro i ⟨hi, hz⟩
    simp -implicitDefEqProofs only [go_sem]
    refine BrA_i (fun h => ?_) (fun h => ?_) <;> simp -implicitDefEqProofs only [go_sem]
    · have h : i < x.ents.length := by simp at h; omega
      have h' : i < y.ents.length := by omega
      have h0i : (0 : Int) ≤ i := by omega
      have h1i : (i : Int) < x.ents.length := by omega
      have h2i : (i : Int) < y.ents.length := by omega
      have wi : IntKind.i64.wrap ((i : Int) + 1) = ((i + 1 : Nat) : Int) := by rw [wrap64 (by omega) (by omega)]; omega
      have r1 := row_getD En.row x.ents h
      have r2 := row_getD En.row y.ents h'
      simp only [En.row] at r1 r2
      (try refine RegD_of sch_34_6 tysOk (by kernel_rfl) ?_)
      simp -implicitDefEqProofs only [go_sem, h0i, h1i, h2i, r1, r2, h, h']
      refine CallW.one (s_qxEntry x.ents[i] y.ents[i] (x2 _ (List.getElem_mem h))) p_qxEntry (by first | (simp -implicitDefEqProofs only [go_sem]; done) | ((conv => lhs; simp -implicitDefEqProofs only [go_sem]); done) | (simp -implicitDefEqProofs only [go_sem]; rfl) | rfl) (by first | trivial | (simp [DeepR, DeepV, DeepVs, DeepC, DeepCs, T.scal]; done)) ?_
      simp -implicitDefEqProofs only [go_sem, h0i, h1i, h2i, r1, r2, h, h']
      refine BrA_i (fun hf => ?_) (fun hf => ?_) <;> simp -implicitDefEqProofs only [go_sem, wi]
      · have hf : x.ents[i] = y.ents[i] := of_decide_eq_true hf
        refine .to [297, 298, 299] (i + 1) rfl ?_ ?_ (by omega) ⟨h, fun j hj hl => ?_⟩ <;> (try simp -implicitDefEqProofs only [go_sem, LeTs_undef, LeTs_same, LeTs_nil])
        rcases Nat.lt_succ_iff_lt_or_eq.1 hl with hl | rfl
        · exact hz j hj hl
        · exact hf
      · refine bad fun e => ?_
        subst e; simp at hf
    · have hall : x.ents = y.ents := List.ext_getElem hl fun j h1 h2 => hz j h1 (by simp at h; omega)
      have : x = y := by cases x; cases y; simp_all
      simp [this]
theorem p_qxClient : Plain Tryz.prog 35 := ⟨_, Tryz.func35, rfl, by decide⟩
theorem s_qxClient (x y : Cl) (hx : x.sm) : Spec Tryz.prog 35 [x.av, y.av] (fun r => r = Bo (decide (x = y))) := by
  refine Spec.of tysOk mixed Tryz.func35 rfl (by decide) ?_
  obtain ⟨x1, x2, x3, x4⟩ := hx
  simp -implicitDefEqProofs only [go_sem, Tryz.f35]
  have bad : x ≠ y → Bo false = Bo (decide (x = y)) := fun h => by simp [h]
  repeat' (first
    | (refine CallW.one (s_qxTexts x.watch y.watch x3) p_qxTexts (by first | (simp -implicitDefEqProofs only [go_sem]; done) | ((conv => lhs; simp -implicitDefEqProofs only [go_sem]); done) | (simp -implicitDefEqProofs only [go_sem]; rfl) | rfl) (by first | trivial | (simp [DeepR, DeepV, DeepVs, DeepC, DeepCs, T.scal]; done)) ?_; simp -implicitDefEqProofs only [go_sem])
    | (refine CallW.one (s_qxTexts x.hears y.hears x4) p_qxTexts (by first | (simp -implicitDefEqProofs only [go_sem]; done) | ((conv => lhs; simp -implicitDefEqProofs only [go_sem]); done) | (simp -implicitDefEqProofs only [go_sem]; rfl) | rfl) (by first | trivial | (simp [DeepR, DeepV, DeepVs, DeepC, DeepCs, T.scal]; done)) ?_; simp -implicitDefEqProofs only [go_sem])
    | (refine BrA_i (fun h => ?_) (fun h => ?_) <;> simp -implicitDefEqProofs only [go_sem]))
  any_goals (refine bad fun e => ?_; subst e; simp_all; done)
  · skip
    have hl : x.queue.length = y.queue.length := by simp_all; omega
    refine LoopW.slotsM [false, false, true, true, false, true, false, false, false, false, false, false, false, false, false, false, false, false, false, false, false, false, false, false, false, false, false, false, false, false, false, false, false, false, false, false, false, false, false, false, false, false, false, false, false, false, false, false, false, false, false, false, false, false, false, false, false, false, false, false, false, false, false, false, false, false, false, false, false] (α := Nat) (fun i => [(5, I i)]) (fun _ => [(16, .box [Bo x.multi, Bo x.wrong, .t (.list false 1 (x.queue.map Or.row)), .t (.list false 1 (x.watch.map Tx.row)), Bo x.touch, .t (.list false 1 (x.hears.map Tx.row))]), (24, .box [Bo y.multi, Bo y.wrong, .t (.list false 1 (y.queue.map Or.row)), .t (.list false 1 (y.watch.map Tx.row)), Bo y.touch, .t (.list false 1 (y.hears.map Tx.row))])]) (fun i => x.queue.length - i) (fun i => i ≤ x.queue.length ∧ ∀ j (h : j < x.queue.length), j < i → x.queue[j] = y.queue[j]) 0 (by simp -implicitDefEqProofs only [go_sem, LeTs_undef, LeTs_same, LeTs_nil]; try simp [LeTs]) rfl (by simp) ?_
    rintro i ⟨hi, hz⟩
    simp -implicitDefEqProofs only [go_sem]
    refine BrA_i (fun h => ?_) (fun h => ?_) <;> simp -implicitDefEqProofs only [go_sem]
    · have h : i < x.queue.length := by simp at h; omega
      have h' : i < y.queue.length := by omega
      have h0i : (0 : Int) ≤ i := by omega
      have h1i : (i : Int) < x.queue.length := by omega
      have h2i : (i : Int) < y.queue.length := by omega
      have wi : IntKind.i64.wrap ((i : Int) + 1) = ((i + 1 : Nat) : Int) := by rw [wrap64 (by omega) (by omega)]; omega
      have r1 := row_getD Or.row x.queue h
      have r2 := row_getD Or.row y.queue h'
      simp only [Or.row] at r1 r2
      (try refine RegD_of sch_35_6 tysOk (by kernel_rfl) ?_)
      simp -implicitDefEqProofs only [go_sem, h0i, h1i, h2i, r1, r2, h, h']
      refine CallW.one (s_qxTexts x.queue[i] y.queue[i] (x2 _ (List.getElem_mem h))) p_qxTexts (by first | (simp -implicitDefEqProofs only [go_sem]; done) | ((conv => lhs; simp -implicitDefEqProofs only [go_sem]); done) | (simp -implicitDefEqProofs only [go_sem]; rfl) | rfl) (by first | trivial | (simp [DeepR, DeepV, DeepVs, DeepC, DeepCs, T.scal]; done)) ?_
      simp -implicitDefEqProofs only [go_sem, h0i, h1i, h2i, r1, r2, h, h']
      refine BrA_i (fun hf => ?_) (fun hf => ?_) <;> simp -implicitDefEqProofs only [go_sem, wi]
      · have hf : x.queue[i] = y.queue[i] := of_decide_eq_true hf
        refine .to [537, 538, 539] (i + 1) rfl ?_ ?_ (by omega) ⟨h, fun j hj hl => ?_⟩ <;> (try simp -implicitDefEqProofs only [go_sem, LeTs_undef, LeTs_same, LeTs_nil])
        rcases Nat.lt_succ_iff_lt_or_eq.1 hl with hl | rfl
        · exact hz j hj hl
        · exact hf
      · refine bad fun e => ?_
        subst e; simp at hf
    · have hall : x.queue = y.queue := List.ext_getElem hl fun j h1 h2 => hz j h1 (by simp at h; omega)
      have : x = y := by cases x; cases y; simp_all
      simp [this]
theorem p_qxServer : Plain Tryz.prog 20 := ⟨_, Tryz.func20, rfl, by decide⟩
theorem s_qxServer (x y : Sv) (hx : x.sm) : Spec Tryz.prog 20 [x.av, y.av] (fun r => r = Bo (decide (x = y))) := by
  refine Spec.of tysOk mixed Tryz.func20 rfl (by decide) ?_
  obtain ⟨x1, x2, x3⟩ := hx
  simp -implicitDefEqProofs only [go_sem, Tryz.f20]
  have bad : x ≠ y → Bo false = Bo (decide (x = y)) := fun h => by simp [h]
  repeat' (first
    | (refine CallW.one (s_qxBase x.base y.base x1) p_qxBase (by first | (simp -implicitDefEqProofs only [go_sem]; done) | ((conv => lhs; simp -implicitDefEqProofs only [go_sem]); done) | (simp -implicitDefEqProofs only [go_sem]; rfl) | rfl) (by first | trivial | (simp [DeepR, DeepV, DeepVs, DeepC, DeepCs, T.scal]; done)) ?_; simp -implicitDefEqProofs only [go_sem])
    | (refine BrA_i (fun h => ?_) (fun h => ?_) <;> simp -implicitDefEqProofs only [go_sem]))
  any_goals (refine bad fun e => ?_; subst e; simp_all; done)
  · skip
    have hl : x.cls.length = y.cls.length := by simp_all; omega
    refine LoopW.slotsM [false, false, true, true, false, true, false, false, false, false, false, false, false, false, false, false, false, false, false, false, false, false, false, false, false, false, false, false, false, false, false, false, false, false, false, false, false, false, false, false, false, false, false, false, false, false, false] (α := Nat) (fun i => [(5, I i)]) (fun _ => [(16, .box [I x.base.now, .t (.list false 7 (x.base.ents.map En.row)), .t (.str x.file), .t (.list false 6 (x.cls.map Cl.row))]), (24, .box [I y.base.now, .t (.list false 7 (y.base.ents.map En.row)), .t (.str y.file), .t (.list false 6 (y.cls.map Cl.row))])]) (fun i => x.cls.length - i) (fun i => i ≤ x.cls.length ∧ ∀ j (h : j < x.cls.length), j < i → x.cls[j] = y.cls[j]) 0 (by simp -implicitDefEqProofs only [go_sem, LeTs_undef, LeTs_same, LeTs_nil]; try simp [LeTs]) rfl (by simp) ?_
    rintro i ⟨hi, hz⟩
    simp -implicitDefEqProofs only [go_sem]
    refine BrA_i (fun h => ?_) (fun h => ?_) <;> simp -implicitDefEqProofs only [go_sem]
    · have h : i < x.cls.length := by simp at h; omega
      have h' : i < y.cls.length := by omega
      have h0i : (0 : Int) ≤ i := by omega
      have h1i : (i : Int) < x.cls.length := by omega
      have h2i : (i : Int) < y.cls.length := by omega
      have wi : IntKind.i64.wrap ((i : Int) + 1) = ((i + 1 : Nat) : Int) := by rw [wrap64 (by omega) (by omega)]; omega
      have r1 := row_getD Cl.row x.cls h
      have r2 := row_getD Cl.row y.cls h'
      simp only [Cl.row] at r1 r2
      (try refine RegD_of sch_20_6 tysOk (by kernel_rfl) ?_)
      simp -implicitDefEqProofs only [go_sem, h0i, h1i, h2i, r1, r2, h, h']
      refine CallW.one (s_qxClient x.cls[i] y.cls[i] (x3 _ (List.getElem_mem h))) p_qxClient (by first | (simp -implicitDefEqProofs only [go_sem]; done) | ((conv => lhs; simp -implicitDefEqProofs only [go_sem]); done) | (simp -implicitDefEqProofs only [go_sem]; rfl) | rfl) (by first | trivial | (simp [DeepR, DeepV, DeepVs, DeepC, DeepCs, T.scal]; done)) ?_
      simp -implicitDefEqProofs only [go_sem, h0i, h1i, h2i, r1, r2, h, h']
      refine BrA_i (fun hf => ?_) (fun hf => ?_) <;> simp -implicitDefEqProofs only [go_sem, wi]
      · have hf : x.cls[i] = y.cls[i] := of_decide_eq_true hf
        refine .to [361, 362, 363] (i + 1) rfl ?_ ?_ (by omega) ⟨h, fun j hj hl => ?_⟩ <;> (try simp -implicitDefEqProofs only [go_sem, LeTs_undef, LeTs_same, LeTs_nil])
        rcases Nat.lt_succ_iff_lt_or_eq.1 hl with hl | rfl
        · exact hz j hj hl
        · exact hf
      · refine bad fun e => ?_
        subst e; simp at hf
    · have hall : x.cls = y.cls := List.ext_getElem hl fun j h1 h2 => hz j h1 (by simp at h; omega)
      have : x = y := by cases x; cases y; simp_all
      simp [this]
theorem p_qxLeader : Plain Tryz.prog 7 := ⟨_, Tryz.func7, rfl, by decide⟩
theorem s_qxLeader (x y : Ld) (hx : x.sm) : Spec Tryz.prog 7 [x.av, y.av] (fun r => r = Bo (decide (x = y))) := by
  refine Spec.of tysOk mixed Tryz.func7 rfl (by decide) ?_
  have hx : x.srv.sm := hx
  simp -implicitDefEqProofs only [go_sem, Tryz.f7]
  repeat' (first
    | (refine CallW.one (s_qxServer x.srv y.srv hx) p_qxServer (by first | (simp -implicitDefEqProofs only [go_sem]; done) | ((conv => lhs; simp -implicitDefEqProofs only [go_sem]); done) | (simp -implicitDefEqProofs only [go_sem]; rfl) | rfl) (by first | trivial | (simp [DeepR, DeepV, DeepVs, DeepC, DeepCs, T.scal]; done)) ?_; simp -implicitDefEqProofs only [go_sem])
    | (refine BrA_i (fun h => ?_) (fun h => ?_) <;> simp -implicitDefEqProofs only [go_sem]))
  all_goals (cases x; cases y; simp_all)
end Go.Proofs.YtcpfhonmdbhdbaaGreatDoor.Am
namespace Go.Proofs.YtcpfhonmdbhdbaaGreatDoor.Am
open Go
set_option maxRecDepth 100000
set_option linter.unusedSimpArgs false
set_option linter.unusedVariables false
theorem s_isNaN (n : Int) : Spec Tryz.prog 271 [I n] (fun r => r = Bo false) := by
  refine Spec.of tysOk mixed Tryz.func271 rfl (by decide) ?_
  simp -implicitDefEqProofs only [go_sem, Tryz.f271]
theorem p_isNaN : Plain Tryz.prog 271 := ⟨_, Tryz.func271, rfl, by decide⟩
def cmpM (a b : Int) : Int := if a < b then -1 else if b < a then 1 else 0
theorem s_compare (a b : Int) : Spec Tryz.prog 177 [I a, I b] (fun r => r = I (cmpM a b)) := by
  refine Spec.of tysOk mixed Tryz.func177 rfl (by decide) ?_
  simp -implicitDefEqProofs only [go_sem, Tryz.f177]
  refine .one (s_isNaN _) p_isNaN rfl trivial ?_
  simp -implicitDefEqProofs only [go_sem]
  refine .one (s_isNaN _) p_isNaN rfl trivial ?_
  simp -implicitDefEqProofs only [go_sem]
  refine BrA_i (fun h => ?_) (fun h => ?_)
  · simp -implicitDefEqProofs only [go_sem]; simp_all [cmpM]
  · simp -implicitDefEqProofs only [go_sem]
    refine BrA_i (fun h => ?_) (fun h => ?_) <;> simp -implicitDefEqProofs only [go_sem] <;> simp_all [cmpM] <;> omega
theorem p_compare : Plain Tryz.prog 177 := ⟨_, Tryz.func177, rfl, by decide⟩
def firstM (xs : List Int) : Int := (xs.find? (· != 0)).getD 0
theorem s_or (xs : List Int) (hx : xs.length < 1000000) : Spec Tryz.prog 176 [.t (.list false 1 (xs.map fun n => [T.int .i64 n]))] (fun r => r = I (firstM xs)) := by
  refine Spec.of tysOk mixed Tryz.func176 rfl (by decide) ?_
  simp -implicitDefEqProofs only [go_sem, Tryz.f176]
  refine LoopW.slots (α := Nat) (fun i => [(8, I i)]) (fun _ => []) (fun i => xs.length - i) (fun i => i ≤ xs.length ∧ (∀ n ∈ xs.take i, n = 0)) 0 rfl rfl (by simp) ?_
  rintro i ⟨hi, hz⟩
  simp -implicitDefEqProofs only [go_sem]
  refine BrA_i (fun h => ?_) (fun h => ?_)
  · have h : i < xs.length := by simp at h; omega
    simp -implicitDefEqProofs only [go_sem, row_getD _ _ h]
    refine ⟨⟨by omega, by omega⟩, BrA_i (fun h0 => ?_) (fun h0 => ?_)⟩
    rotate_left
    · simp -implicitDefEqProofs only [go_sem]
      have hz' : ∀ n ∈ xs.take i, ¬ ((n != 0) = true) := fun n hn => by simp [hz n hn]
      have : xs = xs.take i ++ xs[i] :: xs.drop (i + 1) := by simp
      have h0 : (xs[i] != 0) = true := by simpa using h0
      have h1 : xs.find? (· != 0) = some xs[i] := by
        rw [List.find?_eq_some_iff_append]
        exact ⟨h0, _, _, this, fun n hn => by simp [hz n hn]⟩
      unfold firstM; rw [h1]; rfl
    · simp -implicitDefEqProofs only [go_sem]
      refine .to [] (i + 1) rfl ?_ rfl (by omega) ⟨h, ?_⟩
      · simp -implicitDefEqProofs only [go_sem, LeTs_undef, LeTs_same]
        simp only [wrap64 (n := (i : Int) + 1) (by omega) (by omega)]
        simp [LeTs]
      · intro n hn
        simp at h0
        rw [List.take_succ_eq_append_getElem h, List.mem_append, List.mem_singleton] at hn
        rcases hn with hn | hn
        · exact hz n hn
        · rw [hn]; exact h0
  · simp -implicitDefEqProofs only [go_sem]
    have h : i = xs.length := by simp at h; omega
    subst h
    have : xs.find? (· != 0) = none := List.find?_eq_none.2 fun n hn => by simp [hz n (by simpa using hn)]
    simp [firstM, this]
theorem p_or : Plain Tryz.prog 176 := ⟨_, Tryz.func176, rfl, by decide⟩
theorem find2 (x y : Int) : firstM [x, y] = if x = 0 then y else x := by
  unfold firstM
  by_cases h : x = 0 <;> by_cases h' : y = 0 <;> simp [List.find?_cons, h, h', bne]
  all_goals (split <;> simp_all)
def withinM (n lo hi : Int) : Bool := decide (lo ≤ n) && decide (n ≤ hi)
theorem s_within (n lo hi : Int) : Spec Tryz.prog 24 [I n, I lo, I hi] (fun r => r = Bo (withinM n lo hi)) := by
  refine Spec.of tysOk mixed Tryz.func24 rfl (by decide) ?_
  simp -implicitDefEqProofs only [go_sem, Tryz.f24]
  refine BrA_i (fun h => ?_) (fun h => ?_) <;> simp -implicitDefEqProofs only [go_sem] <;> simp_all [withinM] <;> omega
theorem p_within : Plain Tryz.prog 24 := ⟨_, Tryz.func24, rfl, by decide⟩
def keyOkM (b : ByteArray) : Bool := withinM b.size 1 12
theorem s_keyOk (b : ByteArray) : Spec Tryz.prog 53 [.t (.str b)] (fun r => r = Bo (keyOkM b)) := by
  refine Spec.of tysOk mixed Tryz.func53 rfl (by decide) ?_
  simp -implicitDefEqProofs only [go_sem, Tryz.f53]
  refine .one (s_within _ _ _) p_within rfl trivial ?_
  simp -implicitDefEqProofs only [go_sem]
  rfl
theorem p_keyOk : Plain Tryz.prog 53 := ⟨_, Tryz.func53, rfl, by decide⟩
end Go.Proofs.YtcpfhonmdbhdbaaGreatDoor.Am
namespace Go.Proofs.YtcpfhonmdbhdbaaGreatDoor.Am
open Go
set_option maxRecDepth 100000
set_option linter.unusedSimpArgs false
set_option linter.unusedVariables false
theorem p_l1In : Plain Tryz.prog 27 := ⟨_, Tryz.func27, rfl, by decide⟩
theorem s_l1In (n lo hi : Int) : Spec Tryz.prog 27 [I n, I lo, I hi] (fun r => r = Bo (withinM n lo hi)) := by
  refine Spec.of tysOk mixed Tryz.func27 rfl (by decide) ?_
  simp -implicitDefEqProofs only [go_sem, Tryz.f27]
  refine BrA_i (fun h => ?_) (fun h => ?_) <;> simp -implicitDefEqProofs only [go_sem] <;> simp_all [withinM] <;> omega
end Go.Proofs.YtcpfhonmdbhdbaaGreatDoor.Am
namespace Go.Proofs.YtcpfhonmdbhdbaaGreatDoor.Am
open Go
set_option maxRecDepth 100000
set_option linter.unusedSimpArgs false
set_option linter.unusedVariables false
def dig (n : Nat) : ByteArray := ⟨#[UInt8.ofNat (IntKind.u8.wrap (48 + (n : Int))).toNat]⟩
def mtL (n : Nat) (out : ByteArray) : ByteArray := if h : n = 0 then out else mtL (n / 10) (dig (n % 10) ++ out)
termination_by n
decreasing_by omega
def mt (k : Int) : ByteArray := if k ≤ 0 then "m0".toUTF8 else "m".toUTF8 ++ mtL k.toNat .empty
end Go.Proofs.YtcpfhonmdbhdbaaGreatDoor.Am
namespace Go.Proofs.YtcpfhonmdbhdbaaGreatDoor.Am
open Go
set_option maxRecDepth 100000
set_option linter.unusedSimpArgs false
set_option linter.unusedVariables false
def Pr.mw (x : Pr) : Nat := 2
def Pr.m (x : Pr) (k : Int) : Pr := ⟨mt (k), mt (k + 1)⟩
def It.mw (x : It) : Nat := 2 + wSum Pr.mw x.fields
def It.m (x : It) (k : Int) : It := ⟨⟨k, k + 1⟩, mkAll Pr.m Pr.mw x.fields (k + 2)⟩
def Wt.mw (x : Wt) : Nat := 5
def Wt.m (x : Wt) (k : Int) : Wt := ⟨⟨k, k + 1⟩, mt (k + 2), k + 3, k + 4⟩
def Gr.mw (x : Gr) : Nat := 3 + wSum Wt.mw x.waits
def Gr.m (x : Gr) (k : Int) : Gr := ⟨mt (k), ⟨k + 1, k + 2⟩, mkAll Wt.m Wt.mw x.waits (k + 3)⟩
end Go.Proofs.YtcpfhonmdbhdbaaGreatDoor.Am
namespace Go.Proofs.YtcpfhonmdbhdbaaGreatDoor.Am
open Go
set_option maxRecDepth 100000
set_option linter.unusedSimpArgs false
set_option linter.unusedVariables false
def Tx.mw (x : Tx) : Nat := 1
def Tx.m (x : Tx) (k : Int) : Tx := mt (k)
def Or.mw (x : Or) : Nat := wSum Tx.mw x
def Or.m (x : Or) (k : Int) : Or := mkAll Tx.m Tx.mw x (k)
def Sc.mw (x : Sc) : Nat := 2
def Sc.m (x : Sc) (k : Int) : Sc := ⟨mt (k), k + 1⟩
def En.mw (x : En) : Nat := 4 + wSum Tx.mw x.list + wSum Sc.mw x.scores + wSum Pr.mw x.fields
def En.m (x : En) (k : Int) : En := ⟨mt (k), k + 1, k + 2, mt (k + 3), mkAll Tx.m Tx.mw x.list (k + 4), mkAll Sc.m Sc.mw x.scores (k + 4 + (wSum Tx.mw x.list : Nat)), mkAll Pr.m Pr.mw x.fields (k + 4 + (wSum Tx.mw x.list : Nat) + (wSum Sc.mw x.scores : Nat))⟩
def Cl.mw (x : Cl) : Nat := 3 + wSum Or.mw x.queue + wSum Tx.mw x.watch + wSum Tx.mw x.hears
def Cl.m (x : Cl) (k : Int) : Cl := ⟨decide ((k).tmod 3 = 0), decide ((k + 1).tmod 3 = 0), mkAll Or.m Or.mw x.queue (k + 2), mkAll Tx.m Tx.mw x.watch (k + 2 + (wSum Or.mw x.queue : Nat)), decide ((k + 2 + (wSum Or.mw x.queue : Nat) + (wSum Tx.mw x.watch : Nat)).tmod 3 = 0), mkAll Tx.m Tx.mw x.hears (k + 3 + (wSum Or.mw x.queue : Nat) + (wSum Tx.mw x.watch : Nat))⟩
def Bs.mw (x : Bs) : Nat := wSum En.mw x.ents
def Bs.m (x : Bs) (k : Int) : Bs := ⟨x.now, mkAll En.m En.mw x.ents (k)⟩
def Sv.mw (x : Sv) : Nat := Bs.mw x.base + wSum Cl.mw x.cls
def Sv.m (x : Sv) (k : Int) : Sv := ⟨Bs.m x.base (k), x.file, mkAll Cl.m Cl.mw x.cls (k + (Bs.mw x.base : Nat))⟩
def Ld.mw (x : Ld) : Nat := Sv.mw x.srv
def Ld.m (x : Ld) (k : Int) : Ld := ⟨Sv.m x.srv (k), x.hist⟩
def Fo.mw (x : Fo) : Nat := Bs.mw x.base
def Fo.m (x : Fo) (k : Int) : Fo := ⟨x.hist, x.text, Bs.m x.base (k)⟩
end Go.Proofs.YtcpfhonmdbhdbaaGreatDoor.Am
namespace Go.Proofs.YtcpfhonmdbhdbaaGreatDoor.Am
open Go
set_option linter.unusedVariables false
def mkC : AV → AV
  | .t x => .t (x.mk false)
  | x => x
def mkCs : List AV → List AV
  | [] => []
  | x :: l => mkC x :: mkCs l
def mkV : AV → AV
  | .agg cs => .agg (mkCs cs)
  | x => mkC x
def mkVs : List AV → List AV
  | [] => []
  | x :: l => mkV x :: mkVs l
def mkR : AV → AV
  | .tup l => .tup (mkVs l)
  | x => mkV x
theorem ResC.mk {c : Cx} {col : Col} {i j : Nat} {x : AV} {v : Value} (h : ResC c col i j x v) : ResC c col i j (mkC x) v := by
  cases x <;> first | exact Rd.mk false h | exact h
theorem ResCs.mk {c : Cx} {col : Col} {i : Nat} : ∀ {xs : List AV} {vs : List Value} {j : Nat}, ResCs c col i j xs vs → ResCs c col i j (mkCs xs) vs
  | [], [], _, _ => trivial
  | x :: xs, v :: vs, j, h => ⟨ResC.mk h.1, ResCs.mk h.2⟩
  | [], _ :: _, _, h => h.elim
  | _ :: _, [], _, h => h.elim
theorem ResV.mk {c : Cx} {col : Col} {i : Nat} {x : AV} {v : Value} (h : ResV c col i x v) : ResV c col i (mkV x) v := by
  cases x with
  | agg cs => obtain ⟨vs, e, h⟩ := h; exact ⟨vs, e, ResCs.mk h⟩
  | t y => exact ResC.mk (c := c) (col := col) (i := i) (j := 0) (x := .t y) h
  | _ => exact h
theorem ResVs.mk {c : Cx} {col : Col} : ∀ {xs : List AV} {vs : List Value} {i : Nat}, ResVs c col i xs vs → ResVs c col i (mkVs xs) vs
  | [], [], _, _ => trivial
  | x :: xs, v :: vs, i, h => ⟨ResV.mk h.1, ResVs.mk h.2⟩
  | [], _ :: _, _, h => h.elim
  | _ :: _, [], _, h => h.elim
theorem ResR.mk {c : Cx} {col : Col} {r : AV} {v : Value} (h : ResR c col r v) : ResR c col (mkR r) v := by
  cases r with
  | tup xs => obtain ⟨vs, e, h⟩ := h; exact ⟨vs, e, ResVs.mk h⟩
  | agg cs => exact ResV.mk (c := c) (col := col) (i := 0) (x := .agg cs) h
  | t y => exact ResV.mk (c := c) (col := col) (i := 0) (x := .t y) h
  | _ => exact h
theorem Spec.mkR {P : Program} {f : FuncId} {args : List AV} {Q : AV → Prop} (h : Spec P f args Q) : Spec P f args (fun r => ∃ r0, Q r0 ∧ r = Am.mkR r0) := fun w D vs hD hv => (h w D vs hD hv).mono fun e w' ⟨v, r, he, hq, hs, col, hc, hr⟩ =>
  ⟨v, Am.mkR r, he, ⟨r, hq, rfl⟩, hs, col, hc, hr.mk⟩
theorem LeS.freeze {s s' : St} {k : Nat} (h : s.freeze k = some s') : LeS s s' := fun B a w ⟨ρ, col, hs⟩ => by
  obtain ⟨sz, rs, hk, hn, hp, rfl⟩ := freeze_some h
  exact ⟨_, _, (hs.freeze hk hn hp).1⟩
theorem LeS.freezes : ∀ {ks : List Nat} {s s' : St}, s.freezes ks = some s' → LeS s s'
  | [], s, s', h => by simp [St.freezes] at h; subst h; exact LeS.refl _
  | k :: ks, s, s', h => by
    simp only [St.freezes, Option.bind_eq_some_iff] at h
    obtain ⟨s1, h1, h2⟩ := h
    exact (LeS.freeze h1).trans (LeS.freezes h2)
theorem LeS.rfz {s s' : St} {k : Nat} (h : s.rfz k = some s') : LeS s s' := fun B a w ⟨ρ, col, hs⟩ => by
  obtain ⟨sz, rs, hk, hn, hp, rfl⟩ := rfz_some h
  exact ⟨_, _, (hs.rfz hk hn hp).1⟩
attribute [go_sem] mkC mkCs mkV mkVs mkR
end Go.Proofs.YtcpfhonmdbhdbaaGreatDoor.Am
namespace Go.Proofs.YtcpfhonmdbhdbaaGreatDoor.Am
open Go
set_option maxRecDepth 100000
set_option maxHeartbeats 1000000
set_option linter.unusedSimpArgs false
set_option linter.unusedVariables false
def clZ : Cl := ⟨false, false, [], [], false, []⟩
def serverNewM (n : Int) : Sv := ⟨⟨0, []⟩, ⟨#[]⟩, if withinM n 1 3 = true then List.replicate n.toNat clZ else []⟩
def leaderNewM (n : Int) : Ld := if withinM n 1 3 = true then ⟨serverNewM n, 1⟩ else ⟨⟨⟨0, []⟩, ⟨#[]⟩, []⟩, 0⟩
theorem p_newClient : Plain Tryz.prog 33 := ⟨_, Tryz.func33, rfl, by decide⟩
theorem s_newClient : Spec Tryz.prog 33 [] (fun r => r = clZ.avO) := by
  refine Spec.of tysOk mixed Tryz.func33 rfl (by decide) ?_
  simp -implicitDefEqProofs only [go_sem, Tryz.f33]
  rfl
theorem p_ServerNew : Plain Tryz.prog 19 := ⟨_, Tryz.func19, rfl, by decide⟩
theorem s_ServerNew (n : Int) : Spec Tryz.prog 19 [I n] (fun r => r = (serverNewM n).avO) := by
  refine Spec.of tysOk mixed Tryz.func19 rfl (by decide) ?_
  simp -implicitDefEqProofs only [go_sem, Tryz.f19]
  refine CallW.one (s_within n 1 3) p_within (by first | (simp -implicitDefEqProofs only [go_sem]; done) | ((conv => lhs; simp -implicitDefEqProofs only [go_sem]); done) | (simp -implicitDefEqProofs only [go_sem]; rfl) | rfl) (by first | trivial | (simp [DeepR, DeepV, DeepVs, DeepC, DeepCs, T.scal]; done)) ?_
  cases hn : withinM n 1 3
  · simp -implicitDefEqProofs only [go_sem, hn]
    simp [serverNewM, hn]
  simp -implicitDefEqProofs only [go_sem, hn]
  have hn2 : 1 ≤ n ∧ n ≤ 3 := by simpa [withinM] using hn
  obtain ⟨m, rfl⟩ := Int.eq_ofNat_of_zero_le (show 0 ≤ n by omega)
  refine LoopW.slotsM [false, false, true, true, false, false, false, false, false, false, false, false, true, true, false, false, false, false, false, false, false, false, false] (α := Nat) (fun i => [(13, I i)]) (fun i => [(80, .rows 6 ((List.replicate i clZ).map Cl.rowO))]) (fun i => m - i) (fun i => i ≤ m) 0 (by simp -implicitDefEqProofs only [go_sem, LeTs_undef, LeTs_same, LeTs_nil]; try simp [LeTs]) (by simp -implicitDefEqProofs only [go_sem, List.replicate_zero, List.map_nil]) (by omega) ?_
  intro i hi
  simp -implicitDefEqProofs only [go_sem]
  refine BrA_i (fun h => ?_) (fun h => ?_) <;> simp -implicitDefEqProofs only [go_sem]
  · have h : i < m := by have := of_decide_eq_true h; omega
    have wi : IntKind.i64.wrap ((i : Int) + 1) = ((i + 1 : Nat) : Int) := by rw [wrap64 (by omega) (by omega)]; omega
    refine RegD_of sch_19_6 tysOk (by kernel_rfl) ?_
    simp -implicitDefEqProofs only [go_sem]
    refine CallW.onep (s_newClient) p_newClient (by first | (simp -implicitDefEqProofs only [go_sem]; done) | ((conv => lhs; simp -implicitDefEqProofs only [go_sem]); done) | (simp -implicitDefEqProofs only [go_sem]; rfl) | rfl) rfl ?_
    simp -implicitDefEqProofs only [go_sem]
    have e2 : (List.replicate (i + 1) clZ).map Cl.rowO = (List.replicate i clZ).map Cl.rowO ++ [[T.bool clZ.multi, T.bool clZ.wrong, T.list true 1 (List.map Or.rowO clZ.queue), T.list true 1 (List.map Tx.row clZ.watch), T.bool clZ.touch, T.list true 1 (List.map Tx.row clZ.hears)]] := by
      rw [List.replicate_succ', List.map_append]; rfl
    refine ⟨by unfold roomy; simp; omega, .to [144, 152, 137, 138, 139] (i + 1) rfl ?_ ?_ (by omega) (by omega)⟩ <;> simp -implicitDefEqProofs only [go_sem, LeTs_undef, LeTs_same, LeTs_nil, wi, e2]
  · have h : i = m := by have := of_decide_eq_false h; omega
    subst h
    have hz : (serverNewM (i : Int)) = ⟨⟨0, []⟩, ⟨#[]⟩, List.replicate i clZ⟩ := by simp [serverNewM, hn]
    rw [hz]
    rfl
theorem p_LeaderNew : Plain Tryz.prog 6 := ⟨_, Tryz.func6, rfl, by decide⟩
theorem s_LeaderNew (n : Int) : Spec Tryz.prog 6 [I n] (fun r => r = (leaderNewM n).avO) := by
  refine Spec.of tysOk mixed Tryz.func6 rfl (by decide) ?_
  simp -implicitDefEqProofs only [go_sem, Tryz.f6]
  refine CallW.onep (s_ServerNew n) p_ServerNew (by first | (simp -implicitDefEqProofs only [go_sem]; done) | ((conv => lhs; simp -implicitDefEqProofs only [go_sem]); done) | (simp -implicitDefEqProofs only [go_sem]; rfl) | rfl) rfl ?_
  cases hn : withinM n 1 3
  · have hz : (serverNewM n) = ⟨⟨0, []⟩, ⟨#[]⟩, []⟩ := by simp [serverNewM, hn]
    rw [hz]
    simp -implicitDefEqProofs only [go_sem, List.map_nil, List.length_nil, Int.natCast_zero, eq_self, decide_true]
    simp [leaderNewM, hn]
  · have hn2 : 1 ≤ n ∧ n ≤ 3 := by simpa [withinM] using hn
    have hz : (serverNewM n) = ⟨⟨0, []⟩, ⟨#[]⟩, List.replicate n.toNat clZ⟩ := by simp [serverNewM, hn]
    rw [hz]
    have hl : ¬ ((List.replicate n.toNat clZ).length : Int) = 0 := by simp; omega
    simp -implicitDefEqProofs only [go_sem, hl, decide_false]
    have hy : leaderNewM n = ⟨⟨⟨0, []⟩, ⟨#[]⟩, List.replicate n.toNat clZ⟩, 1⟩ := by simp [leaderNewM, hn, hz]
    rw [hy]
    rfl
theorem p_sServerNew : Plain Tryz.prog 21 := ⟨_, Tryz.func21, rfl, by decide⟩
theorem s_sServerNew (n : Int) : Spec Tryz.prog 21 [I n] (fun r => r = (serverNewM n).avO) := by
  refine Spec.of tysOk mixed Tryz.func21 rfl (by decide) ?_
  simp -implicitDefEqProofs only [go_sem, Tryz.f21]
  refine LoopW.nil [(24, 3, 152, 6)] (by conv => lhs; simp -implicitDefEqProofs only [go_sem]) ?_
  refine LoopW.slotsM [true, false, true, true, true, false, false, false, false, false, false, false, false, false, false, false, false, false, false, false, false, false] (α := Nat) (fun i => [(4, I i)]) (fun i => [(152, .rows 6 ((List.replicate i clZ).map Cl.rowO))]) (fun i => 3 - i) (fun i => i ≤ 3 ∧ (0 < i → withinM n 1 3 = true ∧ (i : Int) ≤ n)) 0 (by simp -implicitDefEqProofs only [go_sem, LeTs_undef, LeTs_same, LeTs_nil]; try simp [LeTs]) (by simp -implicitDefEqProofs only [go_sem, List.replicate_zero, List.map_nil]) ⟨by omega, fun h => by omega⟩ ?_
  rintro i ⟨hi, hin⟩
  simp -implicitDefEqProofs only [go_sem]
  refine BrA_i (fun h => ?_) (fun h => ?_) <;> simp -implicitDefEqProofs only [go_sem]
  · have h : (i : Int) < n := of_decide_eq_true h
    have wi : IntKind.i64.wrap ((i : Int) + 1) = ((i + 1 : Nat) : Int) := by rw [wrap64 (by omega) (by omega)]; omega
    refine CallW.one (s_l1In n 1 3) p_l1In (by first | (simp -implicitDefEqProofs only [go_sem]; done) | ((conv => lhs; simp -implicitDefEqProofs only [go_sem]); done) | (simp -implicitDefEqProofs only [go_sem]; rfl) | rfl) (by first | trivial | (simp [DeepR, DeepV, DeepVs, DeepC, DeepCs, T.scal]; done)) ?_
    cases hn : withinM n 1 3
    · simp -implicitDefEqProofs only [go_sem, hn]
      have h0 : i = 0 := by
        rcases Nat.eq_zero_or_pos i with h0 | h0
        · exact h0
        · have := (hin h0).1; rw [hn] at this; cases this
      subst h0
      have hz : (serverNewM n) = ⟨⟨0, []⟩, ⟨#[]⟩, []⟩ := by simp [serverNewM, hn]
      rw [hz]; rfl
    · have hn2 : 1 ≤ n ∧ n ≤ 3 := by simpa [withinM] using hn
      simp -implicitDefEqProofs only [go_sem, hn]
      have e2 : (List.replicate (i + 1) clZ).map Cl.rowO = (List.replicate i clZ).map Cl.rowO ++ [[T.bool false, T.bool false, T.list true 1 [], T.list true 1 [], T.bool false, T.list true 1 []]] := by
        rw [List.replicate_succ', List.map_append]; rfl
      refine ⟨by unfold roomy; simp; omega, .to [144, 89, 90, 91] (i + 1) rfl ?_ ?_ (by omega) ⟨by omega, fun _ => by omega⟩⟩ <;> simp -implicitDefEqProofs only [go_sem, LeTs_undef, LeTs_same, LeTs_nil, wi, e2]
  · have h : ¬ (i : Int) < n := of_decide_eq_false h
    cases hn : withinM n 1 3
    · have h0 : i = 0 := by
        rcases Nat.eq_zero_or_pos i with h0 | h0
        · exact h0
        · have := (hin h0).1; rw [hn] at this; cases this
      subst h0
      have hz : (serverNewM n) = ⟨⟨0, []⟩, ⟨#[]⟩, []⟩ := by simp [serverNewM, hn]
      rw [hz]; rfl
    · have hn2 : 1 ≤ n ∧ n ≤ 3 := by simpa [withinM] using hn
      have hin2 := (hin (by omega)).2
      have he : n = (i : Int) := by omega
      subst he
      have hz : (serverNewM (i : Int)) = ⟨⟨0, []⟩, ⟨#[]⟩, List.replicate i clZ⟩ := by simp [serverNewM, hn]
      rw [hz]; rfl
theorem p_sLeaderNew : Plain Tryz.prog 8 := ⟨_, Tryz.func8, rfl, by decide⟩
theorem s_sLeaderNew (n : Int) : Spec Tryz.prog 8 [I n] (fun r => r = (leaderNewM n).avO) := by
  refine Spec.of tysOk mixed Tryz.func8 rfl (by decide) ?_
  simp -implicitDefEqProofs only [go_sem, Tryz.f8]
  refine CallW.onep (s_sServerNew n) p_sServerNew (by first | (simp -implicitDefEqProofs only [go_sem]; done) | ((conv => lhs; simp -implicitDefEqProofs only [go_sem]); done) | (simp -implicitDefEqProofs only [go_sem]; rfl) | rfl) rfl ?_
  cases hn : withinM n 1 3
  · have hz : (serverNewM n) = ⟨⟨0, []⟩, ⟨#[]⟩, []⟩ := by simp [serverNewM, hn]
    rw [hz]
    simp -implicitDefEqProofs only [go_sem, List.map_nil, List.length_nil, Int.natCast_zero, eq_self, decide_true]
    simp [leaderNewM, hn]
  · have hn2 : 1 ≤ n ∧ n ≤ 3 := by simpa [withinM] using hn
    have hz : (serverNewM n) = ⟨⟨0, []⟩, ⟨#[]⟩, List.replicate n.toNat clZ⟩ := by simp [serverNewM, hn]
    rw [hz]
    have hl : ¬ ((List.replicate n.toNat clZ).length : Int) = 0 := by simp; omega
    simp -implicitDefEqProofs only [go_sem, hl, decide_false]
    have hy : leaderNewM n = ⟨⟨⟨0, []⟩, ⟨#[]⟩, List.replicate n.toNat clZ⟩, 1⟩ := by simp [leaderNewM, hn, hz]
    rw [hy]
    rfl
theorem leaderNewM_cls (n : Int) : (leaderNewM n).srv.base.ents = [] ∧ (leaderNewM n).srv.cls.length ≤ 3 ∧ ∀ c ∈ (leaderNewM n).srv.cls, c = clZ := by
  unfold leaderNewM
  cases hn : withinM n 1 3
  · simp
  · have hn2 : 1 ≤ n ∧ n ≤ 3 := by simpa [withinM] using hn
    simp only [serverNewM, hn, if_true, List.length_replicate]
    exact ⟨trivial, by omega, fun c hc => List.eq_of_mem_replicate hc⟩
theorem clZ_sm : clZ.sm := by simp [clZ, Cl.sm]
theorem leaderNewM_sm (n : Int) : (leaderNewM n).sm := by
  obtain ⟨h1, h2, h3⟩ := leaderNewM_cls n
  refine ⟨⟨by rw [h1]; simp, by rw [h1]; simp⟩, by omega, fun c hc => by rw [h3 c hc]; exact clZ_sm⟩
end Go.Proofs.YtcpfhonmdbhdbaaGreatDoor.Am
namespace Go.Proofs.YtcpfhonmdbhdbaaGreatDoor.Am
open Go
set_option maxRecDepth 100000
set_option linter.unusedSimpArgs false
set_option linter.unusedVariables false
def allAt {α : Type} (good : α → Bool) (link : α → α → Bool) (xs : List α) : Bool := xs.all good && (xs.zip xs.tail).all fun p => link p.1 p.2
def goodAt {α : Type} (good : α → Bool) (link : α → α → Bool) (xs : List α) (i : Nat) : Bool :=
  match xs[i]? with
  | none => true
  | some x => good x && match i with
    | 0 => true
    | j + 1 => match xs[j]? with
      | none => true
      | some y => link y x
theorem allAt_iff {α : Type} (good : α → Bool) (link : α → α → Bool) (xs : List α) : allAt good link xs = true ↔ ∀ i, i < xs.length → goodAt good link xs i = true := by
  unfold allAt
  rw [Bool.and_eq_true, List.all_eq_true, List.all_eq_true]
  constructor
  · rintro ⟨h1, h2⟩ i hi
    unfold goodAt
    rw [List.getElem?_eq_getElem hi]
    simp only [Bool.and_eq_true]
    refine ⟨h1 _ (List.getElem_mem _), ?_⟩
    cases i with
    | zero => rfl
    | succ j =>
      have hj : j < xs.length := by omega
      simp only [List.getElem?_eq_getElem hj]
      refine h2 (xs[j], xs[j + 1]) ?_
      rw [List.mem_iff_getElem]
      refine ⟨j, by simp; omega, ?_⟩
      simp
  · intro h
    refine ⟨fun x hx => ?_, fun p hp => ?_⟩
    · obtain ⟨i, hi, rfl⟩ := List.mem_iff_getElem.1 hx
      have := h i hi
      unfold goodAt at this
      rw [List.getElem?_eq_getElem hi] at this
      simp only [Bool.and_eq_true] at this
      exact this.1
    · obtain ⟨j, hj, rfl⟩ := List.mem_iff_getElem.1 hp
      simp at hj
      have := h (j + 1) (by omega)
      unfold goodAt at this
      rw [List.getElem?_eq_getElem (show j + 1 < xs.length by omega)] at this
      simp only [Bool.and_eq_true, List.getElem?_eq_getElem (show j < xs.length by omega)] at this
      simpa using this.2
theorem goodAt_0 {α : Type} (good : α → Bool) (link : α → α → Bool) (xs : List α) {i : Nat} (h : i < xs.length) (h0 : i = 0) : goodAt good link xs i = good xs[i] := by
  subst h0
  simp [goodAt, h]
theorem goodAt_s {α : Type} (good : α → Bool) (link : α → α → Bool) (xs : List α) {i : Nat} (h : i < xs.length) (h0 : 0 < i) : goodAt good link xs i = (good xs[i] && link (xs[i - 1]'(by omega)) xs[i]) := by
  obtain ⟨j, rfl⟩ : ∃ j, i = j + 1 := ⟨i - 1, by omega⟩
  have hj : j < xs.length := by omega
  simp [goodAt, h, hj]
theorem goodAt_no {α : Type} (good : α → Bool) (link : α → α → Bool) (xs : List α) {i : Nat} (h : i < xs.length) (hg : good xs[i] = false) : goodAt good link xs i = false := by
  simp [goodAt, h, hg]
theorem p_FieldsOk : Plain Tryz.prog 97 := ⟨_, Tryz.func97, rfl, by decide⟩
def prGood (x : Pr) : Bool := decide (x.k.size ≤ 40) && decide (x.v.size ≤ 40)
def prLink (x y : Pr) : Bool := bytesLt x.k y.k
def fieldsOkM (xs : List Pr) : Bool := allAt prGood prLink xs && decide (xs.length ≤ 16)
theorem s_FieldsOk (xs : List Pr) (hx : xs.length < 4611686018427387904) : Spec Tryz.prog 97 [.t (.list false 2 (xs.map Pr.row))] (fun r => r = Bo (fieldsOkM xs)) := by
  refine Spec.of tysOk mixed Tryz.func97 rfl (by decide) ?_
  simp -implicitDefEqProofs only [go_sem, Tryz.f97]
  refine LoopW.slots (α := Nat) (fun i => [(7, I i)]) (fun _ => []) (fun i => xs.length - i) (fun i => i ≤ xs.length ∧ ∀ j, j < i → goodAt prGood prLink xs j = true) 0 rfl rfl (by simp) ?_
  rintro i ⟨hi, hz⟩
  simp -implicitDefEqProofs only [go_sem]
  refine BrA_i (fun h => ?_) (fun h => ?_)
  · have h : i < xs.length := by simp at h; omega
    have hw1 : IntKind.i64.wrap ((i : Int) + 1) = ((i + 1 : Nat) : Int) := by rw [wrap64 (by omega) (by omega)]; omega
    have hp : 0 < i → IntKind.i64.wrap ((i : Int) - 1) = ((i - 1 : Nat) : Int) := fun h0 => by rw [wrap64 (by omega) (by omega)]; omega
    have bad : goodAt prGood prLink xs i = false → AV.t (T.bool false) = Bo (fieldsOkM xs) := fun hg => by
      have : allAt prGood prLink xs = false := by
        cases ha : allAt prGood prLink xs
        · rfl
        · rw [(allAt_iff _ _ _).1 ha i h] at hg; cases hg
      simp [fieldsOkM, this]
    simp -implicitDefEqProofs only [go_sem, row_getD _ _ h, Pr.row]
    refine ⟨⟨by omega, by omega⟩, ?_⟩
    refine RegD_of sch_97_4 tysOk (by kernel_rfl) ?_
    simp -implicitDefEqProofs only [go_sem]
    refine BrA_i (fun h1 => ?_) (fun h1 => ?_) <;> simp -implicitDefEqProofs only [go_sem]
    · exact bad (goodAt_no _ _ _ h (by simp at h1; simp [prGood]; omega))
    refine BrA_i (fun h2 => ?_) (fun h2 => ?_) <;> simp -implicitDefEqProofs only [go_sem]
    · exact bad (goodAt_no _ _ _ h (by simp at h2; simp [prGood]; omega))
    have hg : prGood xs[i] = true := by simp at h1 h2; simp [prGood]; omega
    refine BrA_i (fun h3 => ?_) (fun h3 => ?_) <;> simp -implicitDefEqProofs only [go_sem]
    · have h3 : 0 < i := by simpa using h3
      have hq : i - 1 < xs.length := by omega
      simp -implicitDefEqProofs only [go_sem, hp h3, row_getD _ _ hq, Pr.row]
      refine ⟨⟨by omega, by omega⟩, ?_⟩
      refine BrA_i (fun h4 => ?_) (fun h4 => ?_) <;> simp -implicitDefEqProofs only [go_sem]
      · refine .to [32] (i + 1) rfl ?_ ?_ (by omega) ⟨h, fun j hj => ?_⟩ <;> (try simp -implicitDefEqProofs only [go_sem, LeTs_undef, LeTs_same, LeTs_nil, hw1])
        rcases Nat.lt_succ_iff_lt_or_eq.1 hj with hl | rfl
        · exact hz j hl
        · rw [goodAt_s _ _ _ h h3, hg]; simpa [prLink] using h4
      · exact bad (by rw [goodAt_s _ _ _ h h3]; simp [prLink, h4])
    · have h3 : i = 0 := by simp at h3; omega
      refine .to [32] (i + 1) rfl ?_ ?_ (by omega) ⟨h, fun j hj => ?_⟩ <;> (try simp -implicitDefEqProofs only [go_sem, LeTs_undef, LeTs_same, LeTs_nil, hw1])
      rcases Nat.lt_succ_iff_lt_or_eq.1 hj with hl | rfl
      · exact hz j hl
      · rw [goodAt_0 _ _ _ h h3, hg]
  · simp -implicitDefEqProofs only [go_sem]
    have h : i = xs.length := by simp at h; omega
    subst h
    have : allAt prGood prLink xs = true := (allAt_iff _ _ _).2 hz
    simp [fieldsOkM, this]
    omega
end Go.Proofs.YtcpfhonmdbhdbaaGreatDoor.Am
namespace Go.Proofs.YtcpfhonmdbhdbaaGreatDoor.Am
open Go
set_option maxRecDepth 100000
set_option maxHeartbeats 1000000
set_option linter.unusedSimpArgs false
set_option linter.unusedVariables false
def cmpS (a b : ByteArray) : Int := if bytesLt a b = true then -1 else if a = b then 0 else 1
theorem cmpS_lt (a b : ByteArray) : decide (cmpS a b < 0) = bytesLt a b := by
  unfold cmpS
  cases h : bytesLt a b
  · by_cases e : a = b <;> simp [e]
  · simp
theorem p_isNaNS : Plain Tryz.prog 272 := ⟨_, Tryz.func272, rfl, by decide⟩
theorem s_isNaNS (n : ByteArray) : Spec Tryz.prog 272 [.t (.str n)] (fun r => r = Bo false) := by
  refine Spec.of tysOk mixed Tryz.func272 rfl (by decide) ?_
  simp -implicitDefEqProofs only [go_sem, Tryz.f272]
theorem p_compareS : Plain Tryz.prog 178 := ⟨_, Tryz.func178, rfl, by decide⟩
theorem s_compareS (a b : ByteArray) : Spec Tryz.prog 178 [.t (.str a), .t (.str b)] (fun r => r = I (cmpS a b)) := by
  refine Spec.of tysOk mixed Tryz.func178 rfl (by decide) ?_
  simp -implicitDefEqProofs only [go_sem, Tryz.f178]
  refine .one (s_isNaNS _) p_isNaNS rfl trivial ?_
  simp -implicitDefEqProofs only [go_sem]
  refine .one (s_isNaNS _) p_isNaNS rfl trivial ?_
  simp -implicitDefEqProofs only [go_sem]
  refine BrA_i (fun h => ?_) (fun h => ?_)
  · simp -implicitDefEqProofs only [go_sem]; simp [cmpS, h]
  · simp -implicitDefEqProofs only [go_sem]
    refine BrA_i (fun h2 => ?_) (fun h2 => ?_) <;> simp -implicitDefEqProofs only [go_sem] <;> simp_all [cmpS]
end Go.Proofs.YtcpfhonmdbhdbaaGreatDoor.Am
namespace Go.Proofs.YtcpfhonmdbhdbaaGreatDoor.Am
open Go
set_option maxRecDepth 1000000
set_option maxHeartbeats 1000000
set_option linter.unusedSimpArgs false
set_option linter.unusedVariables false
def scOrd (x y : Sc) : Int := if cmpM x.num y.num = 0 then cmpS x.text y.text else cmpM x.num y.num
theorem p_scoreOrder : Plain Tryz.prog 153 := ⟨_, Tryz.func153, rfl, by decide⟩
theorem s_scoreOrder (x y : Sc) : Spec Tryz.prog 153 [x.av, y.av] (fun r => r = I (scOrd x y)) := by
  refine Spec.of tysOk mixed Tryz.func153 rfl (by decide) ?_
  simp -implicitDefEqProofs only [go_sem, Tryz.f153]
  refine RegD_of sch_153_1 tysOk (by kernel_rfl) ?_
  simp -implicitDefEqProofs only [go_sem]
  refine .one (s_compare _ _) p_compare rfl trivial ?_
  simp -implicitDefEqProofs only [go_sem]
  refine .one (s_compareS _ _) p_compareS rfl trivial ?_
  simp -implicitDefEqProofs only [go_sem]
  refine .one (s_or [cmpM x.num y.num, cmpS x.text y.text] (by simp)) p_or rfl trivial ?_
  simp -implicitDefEqProofs only [go_sem]
  rw [find2]; rfl
def scLt (x y : Sc) : Bool := decide (x.num < y.num) || (decide (x.num = y.num) && bytesLt x.text y.text)
theorem scOrd_lt (x y : Sc) : decide (scOrd x y < 0) = scLt x y := by
  unfold scOrd scLt cmpM
  by_cases h1 : x.num < y.num
  · simp [h1]
  · by_cases h2 : y.num < x.num
    · have : ¬ x.num = y.num := by omega
      simp [h1, h2, this]
    · have : x.num = y.num := by omega
      simp [this, cmpS_lt]
end Go.Proofs.YtcpfhonmdbhdbaaGreatDoor.Am
namespace Go.Proofs.YtcpfhonmdbhdbaaGreatDoor.Am
open Go
set_option maxRecDepth 100000
set_option maxHeartbeats 1000000
set_option linter.unusedSimpArgs false
set_option linter.unusedVariables false
theorem p_position : Plain Tryz.prog 152 := ⟨_, Tryz.func152, rfl, by decide⟩
theorem s_position (n : Int) : Spec Tryz.prog 152 [I n] (fun r => r = Bo (withinM n (-1000000000) 1000000000)) := by
  refine Spec.of tysOk mixed Tryz.func152 rfl (by decide) ?_
  simp -implicitDefEqProofs only [go_sem, Tryz.f152]
  refine CallW.one (s_within n (-1000000000) 1000000000) p_within (by first | (simp -implicitDefEqProofs only [go_sem]; done) | ((conv => lhs; simp -implicitDefEqProofs only [go_sem]); done) | (simp -implicitDefEqProofs only [go_sem]; rfl) | rfl) (by first | trivial | (simp [DeepR, DeepV, DeepVs, DeepC, DeepCs, T.scal]; done)) ?_
  simp -implicitDefEqProofs only [go_sem]
def scIx (l : List Sc) (t : ByteArray) : Option Nat := l.findIdx? fun y => decide (y.text = t)
def ixN : Option Nat → Int
  | none => -1
  | some n => n
theorem scIx_some {l : List Sc} {t : ByteArray} {i : Nat} (h : i < l.length) (hn : l[i].text = t) (hj : ∀ j (h : j < l.length), j < i → l[j].text ≠ t) : scIx l t = some i :=
  List.findIdx?_eq_some_iff_getElem.2 ⟨h, by simp [hn], fun j hji => by simpa using hj j (by omega) hji⟩
theorem scIx_none {l : List Sc} {t : ByteArray} (hj : ∀ j (h : j < l.length), l[j].text ≠ t) : scIx l t = none :=
  List.findIdx?_eq_none_iff.2 fun y hy => by
    obtain ⟨j, h, rfl⟩ := List.mem_iff_getElem.1 hy
    simpa using hj j h
theorem p_scoreFn : Plain Tryz.prog 180 := ⟨_, Tryz.func180, rfl, by decide⟩
theorem s_scoreFn (y : Sc) (t : ByteArray) : Spec Tryz.prog 180 [y.av, .rop false [.str t] 0] (fun r => r = Bo (decide (y.text = t))) := by
  refine Spec.of tysOk mixed Tryz.func180 rfl (by decide) ?_
  simp -implicitDefEqProofs only [go_sem, Tryz.f180]
theorem p_IndexScore : Plain Tryz.prog 179 := ⟨_, Tryz.func179, rfl, by decide⟩
theorem s_IndexScore (l : List Sc) (t : ByteArray) (hs : l.length ≤ 1099511627776) : Spec Tryz.prog 179 [.t (.list false 2 (l.map Sc.row)), .fn 180 [.rop false [.str t] 0]] (fun r => r = I (ixN (scIx l t))) := by
  refine Spec.of tysOk mixed Tryz.func179 rfl (by decide) ?_
  simp -implicitDefEqProofs only [go_sem, Tryz.f179]
  refine LoopW.slotsM [true, true, false, false, false, false, false, true, true, false, false, false, false, false, false, false, false, false, false] (α := Nat) (fun i => [(8, I i)]) (fun i => []) (fun i => l.length - i) (fun i => i ≤ l.length ∧ ∀ j (h : j < l.length), j < i → l[j].text ≠ t) 0 (by simp -implicitDefEqProofs only [go_sem, LeTs_undef, LeTs_same, LeTs_nil]; try simp [LeTs]) rfl ⟨by omega, fun _ _ h => by omega⟩ ?_
  rintro i ⟨hi, hj⟩
  simp -implicitDefEqProofs only [go_sem]
  refine BrA_i (fun h => ?_) (fun h => ?_) <;> simp -implicitDefEqProofs only [go_sem]
  · skip
    have h : i < l.length := by simp at h; omega
    have h0i : (0 : Int) ≤ i := by omega
    have h1i : (i : Int) < l.length := by omega
    have wi : IntKind.i64.wrap ((i : Int) + 1) = ((i + 1 : Nat) : Int) := by rw [wrap64 (by omega) (by omega)]; omega
    have hr := row_getD Sc.row l h
    simp only [Sc.row] at hr
    simp -implicitDefEqProofs only [go_sem, h, h0i, h1i, hr, wi]
    refine CallW.one (s_scoreFn l[i] t) p_scoreFn (by first | (simp -implicitDefEqProofs only [go_sem]; done) | ((conv => lhs; simp -implicitDefEqProofs only [go_sem]); done) | (simp -implicitDefEqProofs only [go_sem]; rfl) | rfl) (by first | trivial | (simp [DeepR, DeepV, DeepVs, DeepC, DeepCs, T.scal]; done)) ?_
    simp -implicitDefEqProofs only [go_sem]
    refine BrA_i (fun h2 => ?_) (fun h2 => ?_) <;> (try simp only [decide_eq_true_eq, decide_eq_false_iff_not] at h2) <;> simp -implicitDefEqProofs only [go_sem, h, h0i, h1i, wi]
    · rw [scIx_some h h2 (fun j hj2 => hj j hj2)]; rfl
    · refine .to [129, 130, 131] (i + 1) rfl ?_ ?_ (by omega) ⟨by omega, fun j hj2 hj3 => by
        by_cases hji : j < i
        · exact hj j hj2 hji
        · obtain rfl : j = i := by omega
          exact h2⟩ <;> simp -implicitDefEqProofs only [go_sem, LeTs_undef, LeTs_same, LeTs_nil, wi]
  · have h : i = l.length := by simp at h; omega
    subst h
    rw [scIx_none (fun j h => hj j h h)]
    rfl
theorem p_scoreAt : Plain Tryz.prog 154 := ⟨_, Tryz.func154, rfl, by decide⟩
theorem s_scoreAt (l : List Sc) (t : ByteArray) (hs : l.length ≤ 1099511627776) : Spec Tryz.prog 154 [.t (.list false 2 (l.map Sc.row)), .t (.str t)] (fun r => r = I (ixN (scIx l t))) := by
  refine Spec.of tysOk mixed Tryz.func154 rfl (by decide) ?_
  simp -implicitDefEqProofs only [go_sem, Tryz.f154]
  refine CallW.one (s_IndexScore l t hs) p_IndexScore (by first | (simp -implicitDefEqProofs only [go_sem]; done) | ((conv => lhs; simp -implicitDefEqProofs only [go_sem]); done) | (simp -implicitDefEqProofs only [go_sem]; rfl) | rfl) (by first | trivial | (simp [DeepR, DeepV, DeepVs, DeepC, DeepCs, T.scal]; done)) ?_
  simp -implicitDefEqProofs only [go_sem]
def scGood (x : Sc) : Bool := decide (x.text.size ≤ 40) && withinM x.num (-1000000000) 1000000000
def okAll (g : Nat → Bool) (n : Nat) : Bool := (List.range n).all g
theorem okAll_no {g : Nat → Bool} {n i : Nat} (h : i < n) (hg : g i = false) : okAll g n = false := by
  cases ho : okAll g n
  · rfl
  · have := List.all_eq_true.1 ho i (List.mem_range.2 h)
    rw [hg] at this; cases this
theorem okAll_yes {g : Nat → Bool} {n : Nat} : okAll g n = true ↔ ∀ i, i < n → g i = true := by
  unfold okAll
  rw [List.all_eq_true]
  exact ⟨fun h i hi => h i (List.mem_range.2 hi), fun h i hi => h i (List.mem_range.1 hi)⟩
def scAt (l : List Sc) (i : Nat) : Bool := match l[i]? with
  | none => true
  | some x => scGood x && (decide (i = 0) || (match l[i - 1]? with | none => true | some y => scLt y x)) && decide (scIx l x.text = some i)
theorem scAt_eq (l : List Sc) {i : Nat} (h : i < l.length) : scAt l i = (scGood l[i] && (decide (i = 0) || scLt (l[i - 1]'(by omega)) l[i]) && decide (scIx l l[i].text = some i)) := by
  have h' : i - 1 < l.length := by omega
  simp [scAt, h, h']
def scoresOkM (l : List Sc) : Bool := okAll (scAt l) l.length && decide (l.length ≤ 16)
theorem p_ScoresOk : Plain Tryz.prog 96 := ⟨_, Tryz.func96, rfl, by decide⟩
theorem s_ScoresOk (l : List Sc) (hs : l.length ≤ 1099511627776) : Spec Tryz.prog 96 [.t (.list false 2 (l.map Sc.row))] (fun r => r = Bo (scoresOkM l)) := by
  refine Spec.of tysOk mixed Tryz.func96 rfl (by decide) ?_
  simp -implicitDefEqProofs only [go_sem, Tryz.f96]
  refine LoopW.slotsM [true, false, false, false, false, true, true, true, false, false, false, false, false, false, false, false, false, false, false, false, false, false, false, false, false, false, false, false, false, false, false, false, false, false, false, false, false, false, false, false, false, false, false, false, false, false, false, false] (α := Nat) (fun i => [(7, I i)]) (fun i => []) (fun i => l.length - i) (fun i => i ≤ l.length ∧ ∀ j, j < i → scAt l j = true) 0 (by simp -implicitDefEqProofs only [go_sem, LeTs_undef, LeTs_same, LeTs_nil]; try simp [LeTs]) rfl ⟨by omega, fun _ h => by omega⟩ ?_
  rintro i ⟨hi, hz⟩
  simp -implicitDefEqProofs only [go_sem]
  refine BrA_i (fun h => ?_) (fun h => ?_) <;> simp -implicitDefEqProofs only [go_sem]
  · skip
    have h : i < l.length := by simp at h; omega
    have h0i : (0 : Int) ≤ i := by omega
    have h1i : (i : Int) < l.length := by omega
    have wi : IntKind.i64.wrap ((i : Int) + 1) = ((i + 1 : Nat) : Int) := by rw [wrap64 (by omega) (by omega)]; omega
    have hr := row_getD Sc.row l h
    simp only [Sc.row] at hr
    have bad : scAt l i = false → AV.t (T.bool false) = Bo (scoresOkM l) := fun hg => by
      unfold scoresOkM; rw [okAll_no h hg]; rfl
    have e := scAt_eq l h
    simp -implicitDefEqProofs only [go_sem, h, h0i, h1i, hr, wi]
    refine RegD_of sch_96_4 tysOk (by kernel_rfl) ?_
    simp -implicitDefEqProofs only [go_sem]
    refine BrA_i (fun g1 => ?_) (fun g1 => ?_) <;> simp -implicitDefEqProofs only [go_sem]
    · exact bad (by rw [e]; simp [scGood] at g1 ⊢; intro h1; omega)
    refine CallW.one (s_position l[i].num) p_position (by first | (simp -implicitDefEqProofs only [go_sem]; done) | ((conv => lhs; simp -implicitDefEqProofs only [go_sem]); done) | (simp -implicitDefEqProofs only [go_sem]; rfl) | rfl) (by first | trivial | (simp [DeepR, DeepV, DeepVs, DeepC, DeepCs, T.scal]; done)) ?_
    cases g2 : withinM l[i].num (-1000000000) 1000000000
    · simp -implicitDefEqProofs only [go_sem, g2]
      exact bad (by rw [e]; simp [scGood, g2])
    simp -implicitDefEqProofs only [go_sem, g2]
    have hg : scGood l[i] = true := by simp at g1; simp [scGood, g2]; omega
    refine BrA_i (fun g3 => ?_) (fun g3 => ?_) <;> simp -implicitDefEqProofs only [go_sem]
    · have g3 : 0 < i := by simpa using g3
      have hq : i - 1 < l.length := by omega
      have hp : IntKind.i64.wrap ((i : Int) - 1) = ((i - 1 : Nat) : Int) := by rw [wrap64 (by omega) (by omega)]; omega
      have hrq := row_getD Sc.row l hq
      simp only [Sc.row] at hrq
      have q0 : (0 : Int) ≤ ((i - 1 : Nat) : Int) := by omega
      have q1 : ((i - 1 : Nat) : Int) < l.length := by omega
      simp -implicitDefEqProofs only [go_sem, hp, hrq, q0, q1]
      refine CallW.one (s_scoreOrder (l[i - 1]) (l[i])) p_scoreOrder (by first | (simp -implicitDefEqProofs only [go_sem]; done) | ((conv => lhs; simp -implicitDefEqProofs only [go_sem]); done) | (simp -implicitDefEqProofs only [go_sem]; rfl) | rfl) (by first | trivial | (simp [DeepR, DeepV, DeepVs, DeepC, DeepCs, T.scal]; done)) ?_
      simp -implicitDefEqProofs only [go_sem]
      have g4 : decide (scOrd l[i - 1] l[i] ≥ 0) = !scLt l[i - 1] l[i] := by rw [← scOrd_lt]; by_cases hh : scOrd l[i - 1] l[i] < 0 <;> simp [hh] <;> omega
      rw [g4]
      cases g5 : scLt l[i - 1] l[i]
      · simp -implicitDefEqProofs only [go_sem, Bool.not_false]
        exact bad (by rw [e, g5]; simp; omega)
      simp -implicitDefEqProofs only [go_sem, Bool.not_true]
      have hlk : (decide (i = 0) || scLt (l[i - 1]'(by omega)) l[i]) = true := by simp [g5]
      refine CallW.one (s_scoreAt l (l[i]).text hs) p_scoreAt (by first | (simp -implicitDefEqProofs only [go_sem]; done) | ((conv => lhs; simp -implicitDefEqProofs only [go_sem]); done) | (simp -implicitDefEqProofs only [go_sem]; rfl) | rfl) (by first | trivial | (simp [DeepR, DeepV, DeepVs, DeepC, DeepCs, T.scal]; done)) ?_
      simp -implicitDefEqProofs only [go_sem]
      have g7 : decide (ixN (scIx l l[i].text) = i) = decide (scIx l l[i].text = some i) := by
        cases scIx l l[i].text with
        | none => simp [ixN]
        | some k => simp only [ixN, Option.some.injEq]; exact decide_eq_decide.2 (by omega)
      rw [g7]
      refine BrA_i (fun g6 => ?_) (fun g6 => ?_) <;> simp -implicitDefEqProofs only [go_sem, wi]
      · refine .to [32, 153, 154, 155, 257, 258, 259, 321, 322, 323] (i + 1) rfl ?_ ?_ (by omega) ⟨by omega, fun j hj => by
          by_cases hji : j < i
          · exact hz j hji
          · obtain rfl : j = i := by omega
            rw [e, hg, hlk, g6]; rfl⟩ <;> simp -implicitDefEqProofs only [go_sem, LeTs_undef, LeTs_same, LeTs_nil, wi]
      · exact bad (by rw [e, g6]; simp)
    · have g3 : i = 0 := by have := of_decide_eq_false g3; omega
      have hlk : (decide (i = 0) || scLt (l[i - 1]'(by omega)) l[i]) = true := by simp [g3]
      refine CallW.one (s_scoreAt l (l[i]).text hs) p_scoreAt (by first | (simp -implicitDefEqProofs only [go_sem]; done) | ((conv => lhs; simp -implicitDefEqProofs only [go_sem]); done) | (simp -implicitDefEqProofs only [go_sem]; rfl) | rfl) (by first | trivial | (simp [DeepR, DeepV, DeepVs, DeepC, DeepCs, T.scal]; done)) ?_
      simp -implicitDefEqProofs only [go_sem]
      have g7 : decide (ixN (scIx l l[i].text) = i) = decide (scIx l l[i].text = some i) := by
        cases scIx l l[i].text with
        | none => simp [ixN]
        | some k => simp only [ixN, Option.some.injEq]; exact decide_eq_decide.2 (by omega)
      rw [g7]
      refine BrA_i (fun g6 => ?_) (fun g6 => ?_) <;> simp -implicitDefEqProofs only [go_sem, wi]
      · refine .to [32, 153, 154, 155, 257, 258, 259, 321, 322, 323] (i + 1) rfl ?_ ?_ (by omega) ⟨by omega, fun j hj => by
          by_cases hji : j < i
          · exact hz j hji
          · obtain rfl : j = i := by omega
            rw [e, hg, hlk, g6]; rfl⟩ <;> simp -implicitDefEqProofs only [go_sem, LeTs_undef, LeTs_same, LeTs_nil, wi]
      · exact bad (by rw [e, g6]; simp)
  · have h : i = l.length := by simp at h; omega
    subst h
    have : okAll (scAt l) l.length = true := okAll_yes.2 hz
    unfold scoresOkM
    have e16 : decide ((l.length : Int) ≤ 16) = decide (l.length ≤ 16) := decide_eq_decide.2 (by omega)
    rw [this, e16]; rfl
end Go.Proofs.YtcpfhonmdbhdbaaGreatDoor.Am
namespace Go.Proofs.YtcpfhonmdbhdbaaGreatDoor.Am
open Go
set_option maxRecDepth 100000
set_option maxHeartbeats 2000000
set_option linter.unusedSimpArgs false
set_option linter.unusedVariables false
theorem all_no {α : Type} {p : α → Bool} {l : List α} {i : Nat} (h : i < l.length) (hp : p l[i] = false) : l.all p = false := by
  cases ha : l.all p
  · rfl
  · have := List.all_eq_true.1 ha _ (List.getElem_mem h)
    rw [hp] at this; cases this
theorem all_yes {α : Type} {p : α → Bool} {l : List α} (h : ∀ i (h : i < l.length), p l[i] = true) : l.all p = true := by
  rw [List.all_eq_true]
  intro x hx
  obtain ⟨i, hi, rfl⟩ := List.mem_iff_getElem.1 hx
  exact h i hi
def txOk (t : Tx) : Bool := decide (t.size ≤ 40)
def textsOkM (l : List Tx) (most : Int) : Bool := l.all txOk && decide ((l.length : Int) ≤ most)
theorem p_textsOk : Plain Tryz.prog 75 := ⟨_, Tryz.func75, rfl, by decide⟩
theorem s_textsOk (l : List Tx) (most : Int) (hs : l.length ≤ 1099511627776) : Spec Tryz.prog 75 [.t (.list false 1 (l.map Tx.row)), I most] (fun r => r = Bo (textsOkM l most)) := by
  refine Spec.of tysOk mixed Tryz.func75 rfl (by decide) ?_
  simp -implicitDefEqProofs only [go_sem, Tryz.f75]
  refine LoopW.slotsM [true, true, false, false, false, false, false, true, true, true, false, false, false, false, false, false, false, false, false, false, false] (α := Nat) (fun i => [(9, I i)]) (fun i => []) (fun i => l.length - i) (fun i => i ≤ l.length ∧ ∀ j (h : j < l.length), j < i → txOk l[j] = true) 0 (by simp -implicitDefEqProofs only [go_sem, LeTs_undef, LeTs_same, LeTs_nil]; try simp [LeTs]) rfl ⟨by omega, fun _ _ h => by omega⟩ ?_
  rintro i ⟨hi, hj⟩
  simp -implicitDefEqProofs only [go_sem]
  refine BrA_i (fun h => ?_) (fun h => ?_) <;> simp -implicitDefEqProofs only [go_sem]
  · skip
    have h : i < l.length := by simp at h; omega
    have h0i : (0 : Int) ≤ i := by omega
    have h1i : (i : Int) < l.length := by omega
    have wi : IntKind.i64.wrap ((i : Int) + 1) = ((i + 1 : Nat) : Int) := by rw [wrap64 (by omega) (by omega)]; omega
    have hr := row_getD Tx.row l h
    simp only [Tx.row] at hr
    simp -implicitDefEqProofs only [go_sem, h, h0i, h1i, hr, wi]
    refine BrA_i (fun h2 => ?_) (fun h2 => ?_) <;> simp -implicitDefEqProofs only [go_sem, wi]
    · rw [textsOkM, all_no h (by have := of_decide_eq_true h2; simp [txOk]; omega)]; rfl
    · refine .to [] (i + 1) rfl ?_ ?_ (by omega) ⟨by omega, fun j hj2 hj3 => by
        by_cases hji : j < i
        · exact hj j hj2 hji
        · obtain rfl : j = i := by omega
          have := of_decide_eq_false h2
          simp [txOk]; omega⟩ <;> simp -implicitDefEqProofs only [go_sem, LeTs_undef, LeTs_same, LeTs_nil, wi]
  · have h : i = l.length := by simp at h; omega
    subst h
    rw [textsOkM, all_yes fun j h => hj j h h]; rfl
def listOkM (l : List Tx) : Bool := textsOkM l 16
theorem p_listOk : Plain Tryz.prog 76 := ⟨_, Tryz.func76, rfl, by decide⟩
theorem s_listOk (l : List Tx) (hs : l.length ≤ 1099511627776) : Spec Tryz.prog 76 [.t (.list false 1 (l.map Tx.row))] (fun r => r = Bo (listOkM l)) := by
  refine Spec.of tysOk mixed Tryz.func76 rfl (by decide) ?_
  simp -implicitDefEqProofs only [go_sem, Tryz.f76]
  refine CallW.one (s_textsOk l 16 hs) p_textsOk (by first | (simp -implicitDefEqProofs only [go_sem]; done) | ((conv => lhs; simp -implicitDefEqProofs only [go_sem]); done) | (simp -implicitDefEqProofs only [go_sem]; rfl) | rfl) (by first | trivial | (simp [DeepR, DeepV, DeepVs, DeepC, DeepCs, T.scal]; done)) ?_
  simp -implicitDefEqProofs only [go_sem]
  rfl
def upAt (l : List Tx) (i : Nat) : Bool := goodAt (fun _ => true) bytesLt l i
def setOkM (l : List Tx) : Bool := allAt (fun _ => true) bytesLt l && listOkM l
theorem upAt_s {l : List Tx} {i : Nat} (h : i < l.length) (h0 : 0 < i) : upAt l i = bytesLt (l[i - 1]'(by omega)) l[i] := by
  rw [upAt, goodAt_s _ _ _ h h0]; rfl
theorem upAt_0 {l : List Tx} (h : 0 < l.length) : upAt l 0 = true := by rw [upAt, goodAt_0 _ _ _ h rfl]
theorem p_SetOk : Plain Tryz.prog 54 := ⟨_, Tryz.func54, rfl, by decide⟩
theorem s_SetOk (l : List Tx) (hs : l.length ≤ 1099511627776) : Spec Tryz.prog 54 [.t (.list false 1 (l.map Tx.row))] (fun r => r = Bo (setOkM l)) := by
  refine Spec.of tysOk mixed Tryz.func54 rfl (by decide) ?_
  simp -implicitDefEqProofs only [go_sem, Tryz.f54]
  refine LoopW.slotsM [true, false, false, true, false, false, false, false, false, false, false, false, false, false, false, false, false, false, false, false, false, false] (α := Nat) (fun i => [(3, I i)]) (fun i => []) (fun i => l.length - i) (fun i => 1 ≤ i ∧ (i ≤ l.length ∨ i = 1) ∧ ∀ j (h : j < l.length), j < i → upAt l j = true) 1 (by simp -implicitDefEqProofs only [go_sem, LeTs_undef, LeTs_same, LeTs_nil]; try simp [LeTs]) rfl ⟨by omega, by omega, fun j h h1 => by rw [show j = 0 by omega]; exact upAt_0 (by omega)⟩ ?_
  rintro i ⟨hi1, hi, hj⟩
  simp -implicitDefEqProofs only [go_sem]
  refine BrA_i (fun h => ?_) (fun h => ?_) <;> simp -implicitDefEqProofs only [go_sem]
  · have h : i < l.length := by have := of_decide_eq_true h; omega
    have h0i : (0 : Int) ≤ i := by omega
    have h1i : (i : Int) < l.length := by omega
    have wi : IntKind.i64.wrap ((i : Int) + 1) = ((i + 1 : Nat) : Int) := by rw [wrap64 (by omega) (by omega)]; omega
    have hp : IntKind.i64.wrap ((i : Int) - 1) = ((i - 1 : Nat) : Int) := by rw [wrap64 (by omega) (by omega)]; omega
    have hq : i - 1 < l.length := by omega
    have q0 : (0 : Int) ≤ ((i - 1 : Nat) : Int) := by omega
    have q1 : ((i - 1 : Nat) : Int) < l.length := by omega
    have hr := row_getD Tx.row l h
    have hrq := row_getD Tx.row l hq
    simp only [Tx.row] at hr hrq
    refine RegD_of sch_54_4 tysOk (by kernel_rfl) ?_
    simp -implicitDefEqProofs only [go_sem, h, h0i, h1i, hr, hp, hrq, q0, q1, wi]
    refine BrA_i (fun h2 => ?_) (fun h2 => ?_) <;> simp -implicitDefEqProofs only [go_sem, wi]
    · refine .to [] (i + 1) rfl ?_ ?_ (by omega) ⟨by omega, by omega, fun j hj2 hj3 => by
        by_cases hji : j < i
        · exact hj j hj2 hji
        · obtain rfl : j = i := by omega
          rw [upAt_s h (by omega)]; exact h2⟩ <;> simp -implicitDefEqProofs only [go_sem, LeTs_undef, LeTs_same, LeTs_nil, wi]
    · have : allAt (fun _ => true) bytesLt l = false := by
        cases ha : allAt (fun _ => true) bytesLt l
        · rfl
        · have := (allAt_iff _ _ _).1 ha i h
          rw [show goodAt (fun _ => true) bytesLt l i = upAt l i from rfl, upAt_s h (by omega), h2] at this; cases this
      simp [setOkM, this]
  · have h : l.length ≤ i := by have := of_decide_eq_false h; omega
    have : allAt (fun _ => true) bytesLt l = true := (allAt_iff _ _ _).2 fun j hjl => hj j hjl (by omega)
    refine CallW.one (s_listOk l hs) p_listOk (by first | (simp -implicitDefEqProofs only [go_sem]; done) | ((conv => lhs; simp -implicitDefEqProofs only [go_sem]); done) | (simp -implicitDefEqProofs only [go_sem]; rfl) | rfl) (by first | trivial | (simp [DeepR, DeepV, DeepVs, DeepC, DeepCs, T.scal]; done)) ?_
    simp -implicitDefEqProofs only [go_sem]
    simp [setOkM, this]
end Go.Proofs.YtcpfhonmdbhdbaaGreatDoor.Am
namespace Go.Proofs.YtcpfhonmdbhdbaaGreatDoor.Am
open Go
set_option maxRecDepth 100000
set_option maxHeartbeats 4000000
set_option linter.unusedSimpArgs false
set_option linter.unusedVariables false
def noB (e : En) (t l s f : Bool) : Bool := (t || decide (e.text = ⟨#[]⟩)) && (l || e.list.isEmpty) && (s || e.scores.isEmpty) && (f || e.fields.isEmpty)
def kindOkM (e : En) : Bool :=
  if e.kind = 1 then decide (e.text.size ≤ 40) && noB e true false false false
  else if e.kind = 2 then !e.list.isEmpty && listOkM e.list && noB e false true false false
  else if e.kind = 3 then !e.list.isEmpty && setOkM e.list && noB e false true false false
  else if e.kind = 4 then !e.scores.isEmpty && scoresOkM e.scores && noB e false false true false
  else if e.kind = 5 then !e.fields.isEmpty && fieldsOkM e.fields && noB e false false false true
  else false
def enOkM (e : En) : Bool := keyOkM e.key && withinM e.till 0 2000000 && kindOkM e
theorem isEmpty_len {α : Type} (l : List α) : decide ((l.length : Int) > 0) = !l.isEmpty := by cases l <;> simp <;> omega
def En.lim (e : En) : Prop := e.list.length ≤ 1099511627776 ∧ e.scores.length ≤ 1099511627776 ∧ e.fields.length ≤ 1099511627776
theorem p_EntryOk : Plain Tryz.prog 65 := ⟨_, Tryz.func65, rfl, by decide⟩
theorem s_EntryOk (e : En) (hs : e.lim) : Spec Tryz.prog 65 [e.av] (fun r => r = Bo (enOkM e)) := by
  obtain ⟨h1, h2, h3⟩ := hs
  refine Spec.of tysOk mixed Tryz.func65 rfl (by decide) ?_
  simp -implicitDefEqProofs only [go_sem, Tryz.f65]
  refine CallW.one (s_keyOk e.key) p_keyOk (by first | (simp -implicitDefEqProofs only [go_sem]; done) | ((conv => lhs; simp -implicitDefEqProofs only [go_sem]); done) | (simp -implicitDefEqProofs only [go_sem]; rfl) | rfl) (by first | trivial | (simp [DeepR, DeepV, DeepVs, DeepC, DeepCs, T.scal]; done)) ?_
  cases k1 : keyOkM e.key
  · simp -implicitDefEqProofs only [go_sem, k1]; simp [enOkM, k1]
  simp -implicitDefEqProofs only [go_sem, k1]
  refine CallW.one (s_within e.till 0 2000000) p_within (by first | (simp -implicitDefEqProofs only [go_sem]; done) | ((conv => lhs; simp -implicitDefEqProofs only [go_sem]); done) | (simp -implicitDefEqProofs only [go_sem]; rfl) | rfl) (by first | trivial | (simp [DeepR, DeepV, DeepVs, DeepC, DeepCs, T.scal]; done)) ?_
  cases k2 : withinM e.till 0 2000000
  · simp -implicitDefEqProofs only [go_sem, k2]; simp [enOkM, k1, k2]
  simp -implicitDefEqProofs only [go_sem, k2]
  have ee : enOkM e = kindOkM e := by simp [enOkM, k1, k2]
  rw [ee]
  refine RegD_of sch_65_3 tysOk (by kernel_rfl) ?_
  simp -implicitDefEqProofs only [go_sem, isEmpty_len]
  refine BrA_i (fun g1 => ?_) (fun g1 => ?_) <;> simp -implicitDefEqProofs only [go_sem]
  · have g1 := of_decide_eq_true g1
    have ek : kindOkM e = (decide (e.text.size ≤ 40) && noB e true false false false) := by rw [kindOkM, if_pos g1]
    rw [ek]
    clear ek ee k1 k2
    (repeat' (first   | (refine BrA_i (fun h => ?_) (fun h => ?_) <;> (try simp only [decide_eq_true_eq, decide_eq_false_iff_not, Bool.not_eq_true', Bool.not_eq_false', gt_iff_lt, ge_iff_le] at h) <;> try simp -implicitDefEqProofs only [go_sem])   | (refine And.intro (a := roomy _ _) (by (unfold roomy; (try simp only [List.length_take, List.length_append, List.length_map, List.length_cons, List.length_nil]); omega)) ?_; try simp -implicitDefEqProofs only [go_sem])))
    all_goals (simp_all [noB] <;> omega)
  have g1 := of_decide_eq_false g1
  refine BrA_i (fun g2 => ?_) (fun g2 => ?_) <;> simp -implicitDefEqProofs only [go_sem]
  · have g2 := of_decide_eq_true g2
    have ek : kindOkM e = (!e.list.isEmpty && listOkM e.list && noB e false true false false) := by rw [kindOkM, if_neg g1, if_pos g2]
    rw [ek]
    clear ek ee k1 k2 g1 g2
    cases b1 : e.list.isEmpty
    · simp -implicitDefEqProofs only [go_sem]
      refine CallW.one (s_listOk e.list h1) p_listOk (by first | (simp -implicitDefEqProofs only [go_sem]; done) | ((conv => lhs; simp -implicitDefEqProofs only [go_sem]); done) | (simp -implicitDefEqProofs only [go_sem]; rfl) | rfl) (by first | trivial | (simp [DeepR, DeepV, DeepVs, DeepC, DeepCs, T.scal]; done)) ?_
      cases b2 : listOkM e.list
      · simp -implicitDefEqProofs only [go_sem, b2]; rfl
      · simp -implicitDefEqProofs only [go_sem, b2]
        (repeat' (first   | (refine BrA_i (fun h => ?_) (fun h => ?_) <;> (try simp only [decide_eq_true_eq, decide_eq_false_iff_not, Bool.not_eq_true', Bool.not_eq_false', gt_iff_lt, ge_iff_le] at h) <;> try simp -implicitDefEqProofs only [go_sem])   | (refine And.intro (a := roomy _ _) (by (unfold roomy; (try simp only [List.length_take, List.length_append, List.length_map, List.length_cons, List.length_nil]); omega)) ?_; try simp -implicitDefEqProofs only [go_sem])))
        all_goals (simp_all [noB])
    · simp -implicitDefEqProofs only [go_sem]; rfl
  have g2 := of_decide_eq_false g2
  refine BrA_i (fun g3 => ?_) (fun g3 => ?_) <;> simp -implicitDefEqProofs only [go_sem]
  · have g3 := of_decide_eq_true g3
    have ek : kindOkM e = (!e.list.isEmpty && setOkM e.list && noB e false true false false) := by rw [kindOkM, if_neg g1, if_neg g2, if_pos g3]
    rw [ek]
    clear ek ee k1 k2 g1 g2 g3
    cases b1 : e.list.isEmpty
    · simp -implicitDefEqProofs only [go_sem]
      refine CallW.one (s_SetOk e.list h1) p_SetOk (by first | (simp -implicitDefEqProofs only [go_sem]; done) | ((conv => lhs; simp -implicitDefEqProofs only [go_sem]); done) | (simp -implicitDefEqProofs only [go_sem]; rfl) | rfl) (by first | trivial | (simp [DeepR, DeepV, DeepVs, DeepC, DeepCs, T.scal]; done)) ?_
      cases b2 : setOkM e.list
      · simp -implicitDefEqProofs only [go_sem, b2]; rfl
      · simp -implicitDefEqProofs only [go_sem, b2]
        (repeat' (first   | (refine BrA_i (fun h => ?_) (fun h => ?_) <;> (try simp only [decide_eq_true_eq, decide_eq_false_iff_not, Bool.not_eq_true', Bool.not_eq_false', gt_iff_lt, ge_iff_le] at h) <;> try simp -implicitDefEqProofs only [go_sem])   | (refine And.intro (a := roomy _ _) (by (unfold roomy; (try simp only [List.length_take, List.length_append, List.length_map, List.length_cons, List.length_nil]); omega)) ?_; try simp -implicitDefEqProofs only [go_sem])))
        all_goals (simp_all [noB])
    · simp -implicitDefEqProofs only [go_sem]; rfl
  have g3 := of_decide_eq_false g3
  refine BrA_i (fun g4 => ?_) (fun g4 => ?_) <;> simp -implicitDefEqProofs only [go_sem]
  · have g4 := of_decide_eq_true g4
    have ek : kindOkM e = (!e.scores.isEmpty && scoresOkM e.scores && noB e false false true false) := by rw [kindOkM, if_neg g1, if_neg g2, if_neg g3, if_pos g4]
    rw [ek]
    clear ek ee k1 k2 g1 g2 g3 g4
    cases b1 : e.scores.isEmpty
    · simp -implicitDefEqProofs only [go_sem]
      refine CallW.one (s_ScoresOk e.scores h2) p_ScoresOk (by first | (simp -implicitDefEqProofs only [go_sem]; done) | ((conv => lhs; simp -implicitDefEqProofs only [go_sem]); done) | (simp -implicitDefEqProofs only [go_sem]; rfl) | rfl) (by first | trivial | (simp [DeepR, DeepV, DeepVs, DeepC, DeepCs, T.scal]; done)) ?_
      cases b2 : scoresOkM e.scores
      · simp -implicitDefEqProofs only [go_sem, b2]; rfl
      · simp -implicitDefEqProofs only [go_sem, b2]
        (repeat' (first   | (refine BrA_i (fun h => ?_) (fun h => ?_) <;> (try simp only [decide_eq_true_eq, decide_eq_false_iff_not, Bool.not_eq_true', Bool.not_eq_false', gt_iff_lt, ge_iff_le] at h) <;> try simp -implicitDefEqProofs only [go_sem])   | (refine And.intro (a := roomy _ _) (by (unfold roomy; (try simp only [List.length_take, List.length_append, List.length_map, List.length_cons, List.length_nil]); omega)) ?_; try simp -implicitDefEqProofs only [go_sem])))
        all_goals (simp_all [noB])
    · simp -implicitDefEqProofs only [go_sem]; rfl
  have g4 := of_decide_eq_false g4
  refine BrA_i (fun g5 => ?_) (fun g5 => ?_) <;> simp -implicitDefEqProofs only [go_sem]
  · have g5 := of_decide_eq_true g5
    have ek : kindOkM e = (!e.fields.isEmpty && fieldsOkM e.fields && noB e false false false true) := by rw [kindOkM, if_neg g1, if_neg g2, if_neg g3, if_neg g4, if_pos g5]
    rw [ek]
    clear ek ee k1 k2 g1 g2 g3 g4 g5
    cases b1 : e.fields.isEmpty
    · simp -implicitDefEqProofs only [go_sem]
      refine CallW.one (s_FieldsOk e.fields (by omega)) p_FieldsOk (by first | (simp -implicitDefEqProofs only [go_sem]; done) | ((conv => lhs; simp -implicitDefEqProofs only [go_sem]); done) | (simp -implicitDefEqProofs only [go_sem]; rfl) | rfl) (by first | trivial | (simp [DeepR, DeepV, DeepVs, DeepC, DeepCs, T.scal]; done)) ?_
      cases b2 : fieldsOkM e.fields
      · simp -implicitDefEqProofs only [go_sem, b2]; rfl
      · simp -implicitDefEqProofs only [go_sem, b2]
        (repeat' (first   | (refine BrA_i (fun h => ?_) (fun h => ?_) <;> (try simp only [decide_eq_true_eq, decide_eq_false_iff_not, Bool.not_eq_true', Bool.not_eq_false', gt_iff_lt, ge_iff_le] at h) <;> try simp -implicitDefEqProofs only [go_sem])   | (refine And.intro (a := roomy _ _) (by (unfold roomy; (try simp only [List.length_take, List.length_append, List.length_map, List.length_cons, List.length_nil]); omega)) ?_; try simp -implicitDefEqProofs only [go_sem])))
        all_goals (simp_all [noB])
    · simp -implicitDefEqProofs only [go_sem]; rfl
  have g5 := of_decide_eq_false g5
  rw [kindOkM, if_neg g1, if_neg g2, if_neg g3, if_neg g4, if_neg g5]
def enGood (now : Int) (e : En) : Bool := enOkM e && (decide (e.till = 0) || !decide (e.till ≤ now))
def enLink (x y : En) : Bool := bytesLt x.key y.key
def baseOkM (b : Bs) : Bool := withinM b.now 0 1000000 && decide (b.ents.length ≤ 12) && allAt (enGood b.now) enLink b.ents
def Bs.lim (b : Bs) : Prop := b.ents.length ≤ 1099511627776 ∧ ∀ e ∈ b.ents, e.lim
theorem p_BaseOk : Plain Tryz.prog 44 := ⟨_, Tryz.func44, rfl, by decide⟩
theorem s_BaseOk (b : Bs) (hs : b.lim) : Spec Tryz.prog 44 [b.av] (fun r => r = Bo (baseOkM b)) := by
  obtain ⟨hl, hel⟩ := hs
  obtain ⟨l, hll⟩ : ∃ l, l = b.ents := ⟨_, rfl⟩
  rw [← hll] at hl hel
  have eb : baseOkM b = (withinM b.now 0 1000000 && decide (l.length ≤ 12) && allAt (enGood b.now) enLink l) := by rw [baseOkM, hll]
  have ea : b.av = .agg [I b.now, .t (.list false 7 (l.map En.row))] := by rw [hll]
  rw [eb, ea]
  refine Spec.of tysOk mixed Tryz.func44 rfl (by decide) ?_
  simp -implicitDefEqProofs only [go_sem, Tryz.f44]
  refine CallW.one (s_within b.now 0 1000000) p_within (by first | (simp -implicitDefEqProofs only [go_sem]; done) | ((conv => lhs; simp -implicitDefEqProofs only [go_sem]); done) | (simp -implicitDefEqProofs only [go_sem]; rfl) | rfl) (by first | trivial | (simp [DeepR, DeepV, DeepVs, DeepC, DeepCs, T.scal]; done)) ?_
  cases k1 : withinM b.now 0 1000000
  · simp -implicitDefEqProofs only [go_sem, k1]; rfl
  simp -implicitDefEqProofs only [go_sem, k1]
  refine BrA_i (fun k2 => ?_) (fun k2 => ?_) <;> simp -implicitDefEqProofs only [go_sem]
  · have k2 : ¬ l.length ≤ 12 := by have := of_decide_eq_true k2; omega
    simp [k2]
  have k2 : l.length ≤ 12 := by have := of_decide_eq_false k2; omega
  simp only [k2, decide_true, Bool.true_and]
  refine LoopW.slotsM [false, true, false, false, false, false, false, false, false, false, false, false, false, false, false, false, true, true, true, false, false, false, false, false, false, false, false, false, false, false, false, false, false, false, false, false, false, false, false, false, false, false, false, false, false, false, false, false, false, false, false, false, false, false, false] (α := Nat) (fun i => [(18, I i)]) (fun i => []) (fun i => l.length - i) (fun i => i ≤ l.length ∧ ∀ j, j < i → goodAt (enGood b.now) enLink l j = true) 0 (by simp -implicitDefEqProofs only [go_sem, LeTs_undef, LeTs_same, LeTs_nil]; try simp [LeTs]) (by simp -implicitDefEqProofs only [go_sem]) ⟨by omega, fun _ h => by omega⟩ ?_
  rintro i ⟨hi, hz⟩
  simp -implicitDefEqProofs only [go_sem]
  refine BrA_i (fun h => ?_) (fun h => ?_) <;> simp -implicitDefEqProofs only [go_sem]
  · skip
    have h : i < l.length := by simp at h; omega
    have h0i : (0 : Int) ≤ i := by omega
    have h1i : (i : Int) < l.length := by omega
    have wi : IntKind.i64.wrap ((i : Int) + 1) = ((i + 1 : Nat) : Int) := by rw [wrap64 (by omega) (by omega)]; omega
    have hr := row_getD En.row l h
    simp only [En.row] at hr
    have bad : goodAt (enGood b.now) enLink l i = false → AV.t (T.bool false) = Bo (allAt (enGood b.now) enLink l) := fun hg => by
      cases ha : allAt (enGood b.now) enLink l
      · rfl
      · rw [(allAt_iff _ _ _).1 ha i h] at hg; cases hg
    simp -implicitDefEqProofs only [go_sem, h, h0i, h1i, hr, wi]
    refine RegD_of sch_44_6 tysOk (by kernel_rfl) ?_
    simp -implicitDefEqProofs only [go_sem]
    refine CallW.one (s_EntryOk (l[i]) (hel _ (List.getElem_mem h))) p_EntryOk (by first | (simp -implicitDefEqProofs only [go_sem]; done) | ((conv => lhs; simp -implicitDefEqProofs only [go_sem]); done) | (simp -implicitDefEqProofs only [go_sem]; rfl) | rfl) (by first | trivial | (simp [DeepR, DeepV, DeepVs, DeepC, DeepCs, T.scal]; done)) ?_
    cases g1 : enOkM l[i]
    · simp -implicitDefEqProofs only [go_sem, g1]
      exact bad (goodAt_no _ _ _ h (by simp [enGood, g1]))
    simp -implicitDefEqProofs only [go_sem, g1]
    refine BrA_i (fun g3 => ?_) (fun g3 => ?_) <;> simp -implicitDefEqProofs only [go_sem]
    · have g3 : 0 < i := by simpa using g3
      have hq : i - 1 < l.length := by omega
      have hp : IntKind.i64.wrap ((i : Int) - 1) = ((i - 1 : Nat) : Int) := by rw [wrap64 (by omega) (by omega)]; omega
      have hrq := row_getD En.row l hq
      simp only [En.row] at hrq
      have q0 : (0 : Int) ≤ ((i - 1 : Nat) : Int) := by omega
      have q1 : ((i - 1 : Nat) : Int) < l.length := by omega
      have e := goodAt_s (enGood b.now) enLink l h g3
      simp -implicitDefEqProofs only [go_sem, hp, hrq, q0, q1, h, h0i, h1i, hr]
      refine BrA_i (fun g4 => ?_) (fun g4 => ?_) <;> simp -implicitDefEqProofs only [go_sem]
      · refine BrA_i (fun g5 => ?_) (fun g5 => ?_) <;> simp -implicitDefEqProofs only [go_sem, wi]
        · have g5 := of_decide_eq_true g5
          refine .to [32, 193, 194, 195] (i + 1) rfl ?_ ?_ (by omega) ⟨by omega, fun j hj => by
            by_cases hji : j < i
            · exact hz j hji
            · obtain rfl : j = i := by omega
              rw [e]; simp_all [enGood, enLink]⟩ <;> simp -implicitDefEqProofs only [go_sem, LeTs_undef, LeTs_same, LeTs_nil, wi]
        · have g5 := of_decide_eq_false g5
          refine BrA_i (fun g6 => ?_) (fun g6 => ?_) <;> simp -implicitDefEqProofs only [go_sem, wi]
          · have g6 := of_decide_eq_true g6
            exact bad (goodAt_no _ _ _ h (by simp [enGood, g5, g6]))
          · have g6 := of_decide_eq_false g6
            refine .to [32, 193, 194, 195] (i + 1) rfl ?_ ?_ (by omega) ⟨by omega, fun j hj => by
              by_cases hji : j < i
              · exact hz j hji
              · obtain rfl : j = i := by omega
                rw [e]; simp_all [enGood, enLink]⟩ <;> simp -implicitDefEqProofs only [go_sem, LeTs_undef, LeTs_same, LeTs_nil, wi]
      · exact bad (by rw [e]; simp [enLink, g4])
    · have g3 : i = 0 := by have := of_decide_eq_false g3; omega
      have e := goodAt_0 (enGood b.now) enLink l h g3
      have g4 : True := trivial
      refine BrA_i (fun g5 => ?_) (fun g5 => ?_) <;> simp -implicitDefEqProofs only [go_sem, wi]
      · have g5 := of_decide_eq_true g5
        refine .to [32, 193, 194, 195] (i + 1) rfl ?_ ?_ (by omega) ⟨by omega, fun j hj => by
          by_cases hji : j < i
          · exact hz j hji
          · obtain rfl : j = i := by omega
            rw [e]; simp_all [enGood, enLink]⟩ <;> simp -implicitDefEqProofs only [go_sem, LeTs_undef, LeTs_same, LeTs_nil, wi]
      · have g5 := of_decide_eq_false g5
        refine BrA_i (fun g6 => ?_) (fun g6 => ?_) <;> simp -implicitDefEqProofs only [go_sem, wi]
        · have g6 := of_decide_eq_true g6
          exact bad (goodAt_no _ _ _ h (by simp [enGood, g5, g6]))
        · have g6 := of_decide_eq_false g6
          refine .to [32, 193, 194, 195] (i + 1) rfl ?_ ?_ (by omega) ⟨by omega, fun j hj => by
            by_cases hji : j < i
            · exact hz j hji
            · obtain rfl : j = i := by omega
              rw [e]; simp_all [enGood, enLink]⟩ <;> simp -implicitDefEqProofs only [go_sem, LeTs_undef, LeTs_same, LeTs_nil, wi]
  · have h : i = l.length := by simp at h; omega
    subst h
    rw [(allAt_iff _ _ _).2 hz]
end Go.Proofs.YtcpfhonmdbhdbaaGreatDoor.Am
namespace Go.Proofs.YtcpfhonmdbhdbaaGreatDoor.Am
open Go
set_option maxRecDepth 100000
set_option maxHeartbeats 1000000
set_option linter.unusedSimpArgs false
set_option linter.unusedVariables false
abbrev by8 (bs : List Int) : AV := .t (.list false 1 (bs.map fun b => [T.int .u8 b]))
structure Drw (bs : List Int) (p : Int) : Prop where
  b : ∀ x ∈ bs, 0 ≤ x ∧ x ≤ 255
  l : bs.length ≤ 2000
  p0 : 0 ≤ p
  p1 : p ≤ 1000000000
abbrev dwH (bs : List Int) (p : Int) : Hp := [(9000, .box [by8 bs, I p])]
theorem wrap_i {n : Int} (h0 : 0 ≤ n) (h1 : n ≤ 9223372036854775807) : IntKind.i64.wrap n = n := wrap64 (by omega) (by omega)
theorem xor_ok {a b : Int} (ha : 0 ≤ a ∧ a < 4611686018427387904) (hb : 0 ≤ b ∧ b < 4611686018427387904) :
    ∃ v : Int, IntKind.i64.wrap (BitVec.ofInt IntKind.i64.bits a ^^^ BitVec.ofInt IntKind.i64.bits b).toNat = v ∧ 0 ≤ v ∧ v < 4611686018427387904 := by
  obtain ⟨a, rfl⟩ := Int.eq_ofNat_of_zero_le ha.1
  obtain ⟨b, rfl⟩ := Int.eq_ofNat_of_zero_le hb.1
  have h1 : a < 2 ^ 62 := by have := ha.2; omega
  have h2 : b < 2 ^ 62 := by have := hb.2; omega
  have h3 : (BitVec.ofInt IntKind.i64.bits (a : Int) ^^^ BitVec.ofInt IntKind.i64.bits (b : Int)).toNat = a ^^^ b := by
    rw [BitVec.toNat_xor, BitVec.ofInt_natCast, BitVec.ofInt_natCast, BitVec.toNat_ofNat, BitVec.toNat_ofNat, Nat.mod_eq_of_lt, Nat.mod_eq_of_lt]
    · show b < 2 ^ 64; omega
    · show a < 2 ^ 64; omega
  have h4 : a ^^^ b < 2 ^ 62 := Nat.xor_lt_two_pow h1 h2
  rw [h3]
  exact ⟨_, rfl, by rw [wrap64 (by omega) (by omega)]; omega, by rw [wrap64 (by omega) (by omega)]; omega⟩
theorem p_pick : Plain Tryz.prog 18 := ⟨_, Tryz.func18, rfl, by decide⟩
theorem byte_at {bs : List Int} {k : Nat} (hk : k < bs.length) : (bs.map fun b => [T.int .u8 b]).getD k [] = [T.int .u8 bs[k]] := row_getD (fun b => [T.int .u8 b]) bs hk
theorem s_pick (bs : List Int) (p n : Int) (h : Drw bs p) (hn : n ≤ 1000000000) : SpecO Tryz.prog 18 [.ptr 9000 0 0, I n] (dwH bs p)
    (fun r h' => (∃ v : Int, r = I v ∧ 0 ≤ v ∧ (v < n ∨ v = 0)) ∧ h' = dwH bs (p + 1)) := by
  obtain ⟨hb, hl, hp0, hp1⟩ := h
  refine SpecO.of tysOk mixed Tryz.func18 rfl (by decide) ?_
  have w1 : IntKind.i64.wrap (p + 1) = p + 1 := wrap64 (by omega) (by omega)
  have w2 : IntKind.i64.wrap (p + 1 - 1) = p := by rw [wrap64 (by omega) (by omega)]; omega
  simp -implicitDefEqProofs only [go_sem, Tryz.f18, by8, w1, w2]
  refine BrA_i (fun h1 => ?_) (fun h1 => ?_) <;> simp -implicitDefEqProofs only [go_sem]
  · exact ⟨0, rfl, by omega, .inr rfl⟩
  have h1 : 1 ≤ n := by simp at h1; omega
  refine BrA_i (fun h2 => ?_) (fun h2 => ?_) <;> simp -implicitDefEqProofs only [go_sem]
  · exact ⟨0, rfl, by omega, .inr rfl⟩
  have h2 : 0 < bs.length := by have := of_decide_eq_false h2; omega
  simp -implicitDefEqProofs only [go_sem, w2]
  refine BrA_i (fun h3 => ?_) (fun h3 => ?_) <;> simp -implicitDefEqProofs only [go_sem]
  · obtain ⟨k, rfl⟩ := Int.eq_ofNat_of_zero_le hp0
    have h3 : k < bs.length := by simp at h3; omega
    have hk := hb _ (List.getElem_mem h3)
    have h0i : (0 : Int) ≤ k := by omega
    have h1i : (k : Int) < bs.length := by omega
    have wk : IntKind.i64.wrap bs[k] = bs[k] := wrap_i (by omega) (by omega)
    simp -implicitDefEqProofs only [go_sem, h0i, h1i, byte_at h3, wk]
    exact ⟨by omega, _, rfl, Int.tmod_nonneg _ hk.1, .inl (Int.tmod_lt_of_pos _ (by omega))⟩
  · obtain ⟨k, rfl⟩ := Int.eq_ofNat_of_zero_le hp0
    have e1 : ((k : Int).tmod bs.length) = ((k % bs.length : Nat) : Int) := rfl
    have e2 : (IntKind.i64.wrap (IntKind.i64.wrap ((k : Int) * 7) + 3)).tmod bs.length = (((k * 7 + 3) % bs.length : Nat) : Int) := by
      rw [wrap_i (n := (k : Int) * 7) (by omega) (by omega), wrap_i (by omega) (by omega)]; rfl
    have g1 : k % bs.length < bs.length := Nat.mod_lt _ h2
    have g2 : (k * 7 + 3) % bs.length < bs.length := Nat.mod_lt _ h2
    obtain ⟨m1, hm1⟩ : ∃ m, m = k % bs.length := ⟨_, rfl⟩
    obtain ⟨m2, hm2⟩ : ∃ m, m = (k * 7 + 3) % bs.length := ⟨_, rfl⟩
    rw [← hm1] at e1 g1
    rw [← hm2] at e2 g2
    have z1 : (0 : Int) ≤ m1 := by omega
    have z2 : (0 : Int) ≤ m2 := by omega
    have y1 : (m1 : Int) < bs.length := by omega
    have y2 : (m2 : Int) < bs.length := by omega
    have k1 := hb _ (List.getElem_mem g1)
    have k2 := hb _ (List.getElem_mem g2)
    have wk1 : IntKind.i64.wrap bs[m1] = bs[m1] := wrap_i (by omega) (by omega)
    have wk2 : IntKind.i64.wrap bs[m2] = bs[m2] := wrap_i (by omega) (by omega)
    have hn0 : ¬ (bs.length : Int) = 0 := by omega
    refine RegD_of sch_18_7 tysOk (by kernel_rfl) ?_
    simp -implicitDefEqProofs only [go_sem, e1, e2, z1, z2, y1, y2, byte_at g1, byte_at g2, wk1, wk2, hn0]
    refine ⟨by omega, ?_⟩
    have q1 : (k : Int).tdiv bs.length = ((k / bs.length : Nat) : Int) := rfl
    have q2 : k / bs.length ≤ k := Nat.div_le_self _ _
    obtain ⟨q, hq⟩ : ∃ q, q = k / bs.length := ⟨_, rfl⟩
    rw [← hq] at q1 q2
    have u1 : IntKind.i64.wrap (bs[m1] * 131) = bs[m1] * 131 := wrap_i (by omega) (by omega)
    have u2 : IntKind.i64.wrap (bs[m2] * 1117) = bs[m2] * 1117 := wrap_i (by omega) (by omega)
    have u3 : IntKind.i64.wrap (bs[m1] * 131 + bs[m2] * 1117) = bs[m1] * 131 + bs[m2] * 1117 := wrap_i (by omega) (by omega)
    have u4 : IntKind.i64.wrap ((k : Int) * 29) = (k : Int) * 29 := wrap_i (by omega) (by omega)
    have u5 : IntKind.i64.wrap (q : Int) = (q : Int) := wrap_i (by omega) (by omega)
    have u6 : IntKind.i64.wrap ((q : Int) * 53) = (q : Int) * 53 := wrap_i (by omega) (by omega)
    have u7 : IntKind.i64.wrap (bs[m1] * 131 + bs[m2] * 1117 + (k : Int) * 29) = bs[m1] * 131 + bs[m2] * 1117 + (k : Int) * 29 := wrap_i (by omega) (by omega)
    have u8 : IntKind.i64.wrap (bs[m1] * 131 + bs[m2] * 1117 + (k : Int) * 29 + (q : Int) * 53) = bs[m1] * 131 + bs[m2] * 1117 + (k : Int) * 29 + (q : Int) * 53 := wrap_i (by omega) (by omega)
    rw [q1, u1, u2, u3, u4, u5, u6, u7, u8]
    obtain ⟨X, hX⟩ : ∃ X : Int, X = bs[m1] * 131 + bs[m2] * 1117 + (k : Int) * 29 + (q : Int) * 53 := ⟨_, rfl⟩
    rw [← hX]
    have hX0 : 0 ≤ X ∧ X < 4611686018427387904 := by omega
    have u9 : IntKind.i64.wrap (X.tdiv 64) = X.tdiv 64 := by
      have : X.tdiv 64 = X / 64 := Int.tdiv_eq_ediv_of_nonneg hX0.1
      rw [this]; exact wrap_i (by omega) (by omega)
    have hY0 : 0 ≤ X.tdiv 64 ∧ X.tdiv 64 < 4611686018427387904 := by
      have : X.tdiv 64 = X / 64 := Int.tdiv_eq_ediv_of_nonneg hX0.1
      rw [this]; omega
    obtain ⟨v, e, v0, v1⟩ := xor_ok hX0 hY0
    rw [u9]
    exact ⟨v.tmod n, congrArg (fun z => AV.t (T.int IntKind.i64 (Int.tmod z n))) e, Int.tmod_nonneg _ v0, .inl (Int.tmod_lt_of_pos _ (by omega))⟩
theorem p_l1Open : Plain Tryz.prog 17 := ⟨_, Tryz.func17, rfl, by decide⟩
theorem s_l1Open (bs : List Int) (hb : ∀ x ∈ bs, 0 ≤ x ∧ x ≤ 255) (hl : bs.length ≤ 1048576) : ∃ cs, Drw cs 0 ∧ SpecB Tryz.prog 17 [by8 bs] [by8 cs, I 0] := by
  refine ⟨bs.take 2000, ⟨fun x hx => hb x (List.mem_of_mem_take hx), by simp; omega, by omega, by omega⟩, ?_⟩
  refine SpecB.of tysOk mixed Tryz.func17 rfl (by decide) rfl ?_
  simp -implicitDefEqProofs only [go_sem, Tryz.f17]
  refine BrA_i (fun h1 => ?_) (fun h1 => ?_) <;> simp -implicitDefEqProofs only [go_sem]
  · have e : List.take (Int.toNat 2000 - Int.toNat 0) (List.drop (Int.toNat 0) (List.map (fun b => [T.int IntKind.u8 b]) bs)) = (bs.take 2000).map fun b => [T.int IntKind.u8 b] := by
      show List.take 2000 (List.map _ bs) = _
      rw [List.map_take]
    rw [e]
    have h1 := of_decide_eq_true h1
    exact ⟨by omega, 2, 80, rfl, rfl, by decide, rfl⟩
  · have h1 := of_decide_eq_false h1
    have e : bs.take 2000 = bs := List.take_of_length_le (by omega)
    rw [e]
    exact ⟨2, 80, rfl, rfl, by decide, rfl⟩
end Go.Proofs.YtcpfhonmdbhdbaaGreatDoor.Am
namespace Go.Proofs.YtcpfhonmdbhdbaaGreatDoor.Am
open Go Go.ChangeShapes Go.WideShapes Go.RowKit
def RdRow (w : World) (ts : List T) (cs : List Value) : Prop := ts.length = cs.length ∧ ∀ (j : Nat) (t : T) (v : Value), ts[j]? = some t → cs[j]? = some v → Rd w (fun b => b < w.heap.size) t v
structure Opn (P : Program) (t : TypeId) (sz : Nat) {α : Type} (row : α → List T) (G : α → Prop) : Prop where
  len : ∀ x, (row x).length = sz
  op : ∀ {H : Type} {enc : TypeId × Value → H} {W : World} {fuel : Nat} {cs : List Value} {D : DataW H} {ps : List MemPlace},
    DataW.trod enc P W 0 (fun _ => true) true fuel t cs = some (D, ps) → (∀ n ∈ DataW.weights P t D, n ≤ reachBytes) → ∃ x, RdRow W (row x) cs ∧ G x
theorem RdRow.one {w : World} {t : T} {v : Value} (h : Rd w (fun b => b < w.heap.size) t v) : RdRow w [t] [v] :=
  ⟨rfl, fun j t' v' h1 h2 => by
    cases j with
    | zero => simp at h1 h2; subst h1 h2; exact h
    | succ j => simp at h1⟩
theorem RdRow.append {w : World} {a b : List T} {c d : List Value} (h : RdRow w a c) (h' : RdRow w b d) : RdRow w (a ++ b) (c ++ d) :=
  ⟨by simp [h.1, h'.1], fun j t v h1 h2 => by
    rw [List.getElem?_append] at h1 h2
    have := h.1
    split at h1
    · rename_i hj
      rw [if_pos (by omega)] at h2
      exact h.2 j t v h1 h2
    · rename_i hj
      rw [if_neg (by omega)] at h2
      rw [this] at h1
      exact h'.2 _ t v h1 h2⟩
section
variable {P : Program} {t : TypeId}
theorem Opn.int {k : IntKind} (hu : P.underlying t = some (.int k)) : Opn P t 1 (fun x : Int => [T.int k x]) (fun x => (Lit.int k x).wf = true) where
  len := fun _ => rfl
  op := fun h _ => by
    obtain ⟨m, rfl, _, hw⟩ := DataW.trod_int hu h
    exact ⟨m, .one (.int _ _), hw⟩
theorem Opn.bool (hu : P.underlying t = some .bool) : Opn P t 1 (fun x : Bool => [T.bool x]) (fun _ => True) where
  len := fun _ => rfl
  op := fun h _ => by
    obtain ⟨m, rfl, _⟩ := DataW.trod_bool hu h
    exact ⟨m, .one (.bool _), trivial⟩
theorem Opn.string (hu : P.underlying t = some .string) : Opn P t 1 (fun x : ByteArray => [T.str x]) (fun x => x.size ≤ 140737488351232) where
  len := fun _ => rfl
  op := fun h hz => by
    obtain ⟨m, rfl, e, _⟩ := DataW.trod_string hu h
    obtain ⟨rfl, _⟩ := Prod.mk.inj e
    refine ⟨m, .one (.str _), ?_⟩
    have := hz m.data.toList.length (by simp [DataW.weights])
    simpa [reachBytes] using this
theorem Opn.slice {e : TypeId} {sz : Nat} {α : Type} {row : α → List T} {G : α → Prop} (he : Opn P e sz row G) (hu : P.underlying t = some (.slice e)) (hc : P.cellsOf e = sz) (hs : 0 < sz) {B : Nat} (hB : P.bytesOf e = B) :
    Opn P t 1 (fun xs : List α => [T.list false sz (xs.map row)]) (fun xs => xs.length * B ≤ 140737488351232 ∧ ∀ x ∈ xs, G x) where
  len := fun _ => rfl
  op := fun {H enc W fuel cs D ps} h hz => by
    rcases DataW.trod_slice hu h with ⟨rfl, _⟩ | ⟨a, len, cap, elems, rest, n, _, rfl, hx, hb, hl, hm, hlen, hel, hsp, _⟩
    · exact ⟨[], .one (.nil ..), by simp, by simp⟩
    · obtain ⟨rfl, _⟩ := Prod.mk.inj hx
      have hw0 := hz ((elems.map (·.1)).length + (rest.map (·.1)).length |>.mul (P.bytesOf e)) (by simp [DataW.weights, hu])
      have each : ∀ i, i < len → ∃ x c, RdRow W (row x) c ∧ G x ∧ c.length = sz ∧ ∀ j u, c[j]? = some u → W.cell? (a.add (i * sz + j)) = some u := by
        intro i hi
        have h1 := hel i hi
        have hil : i < elems.length := by omega
        rw [List.getElem?_eq_getElem hil] at h1
        rw [Option.bind_eq_some_iff] at h1
        obtain ⟨c, hcs, hy⟩ := h1
        have hD : ∀ m ∈ DataW.weights P e (elems[i]).1, m ≤ reachBytes := by
          intro m hmem
          refine hz m ?_
          simp only [DataW.weights, hu]
          refine List.mem_cons_of_mem _ (List.mem_append_left _ ?_)
          have : ∀ (l : List (DataW H)) (y : DataW H), y ∈ l → m ∈ DataW.weights P e y → m ∈ DataW.weightsAll P e l := by
            intro l
            induction l with
            | nil => intro y hy; cases hy
            | cons z l ih =>
              intro y hy hm2
              simp only [DataW.weightsAll, List.mem_append]
              rcases List.mem_cons.1 hy with rfl | hy
              · exact Or.inl hm2
              · exact Or.inr (ih y hy hm2)
          exact this _ _ (List.mem_map.2 ⟨elems[i], List.getElem_mem hil, rfl⟩) hmem
        obtain ⟨x, hK, hG⟩ := he.op (show DataW.trod enc P W 0 (fun _ => true) true n e c = some ((elems[i]).1, (elems[i]).2) from hy) hD
        obtain ⟨hb1, hb2, hb3⟩ := World.cells?_some hcs
        have hlen2 : c.length = sz := by rw [← hK.1, he.len]
        refine ⟨x, c, hK, hG, hlen2, fun j u hu2 => ?_⟩
        have hj := (List.getElem?_eq_some_iff.1 hu2).1
        have h3 := hb3 j (by rw [hc]; omega)
        rw [hu2] at h3
        rw [← h3, hc, Addr.add_add]
      have pick : ∀ l, l ≤ len → ∃ xs : List α, xs.length = l ∧ (∀ x ∈ xs, G x) ∧ ∀ j p, xs[j]? = some p → ∃ c, c.length = sz ∧ RdRow W (row p) c ∧ ∀ i u, c[i]? = some u → W.cell? (a.add (j * sz + i)) = some u := by
        intro l
        induction l with
        | zero => exact fun _ => ⟨[], rfl, by simp, fun j p h => by simp at h⟩
        | succ l ih =>
          intro hll
          obtain ⟨xs, h1, h2, h3⟩ := ih (by omega)
          obtain ⟨x, c, q1, q2, q3, q4⟩ := each l (by omega)
          refine ⟨xs ++ [x], by simp [h1], ?_, ?_⟩
          · intro y hy
            rcases List.mem_append.1 hy with hy | hy
            · exact h2 y hy
            · obtain rfl := List.mem_singleton.1 hy
              exact q2
          · intro j p hj
            by_cases hjl : j < xs.length
            · exact h3 j p (by rwa [List.getElem?_append_left hjl] at hj)
            · rw [List.getElem?_append_right (by omega)] at hj
              have : j - xs.length = 0 := by
                have := (List.getElem?_eq_some_iff.1 hj).1
                simpa using this
              rw [this] at hj
              have hjl2 : j = l := by omega
              subst hjl2
              obtain rfl : x = p := by simpa using hj
              exact ⟨c, q3, q1, q4⟩
      obtain ⟨xs, h1, h2, h3⟩ := pick len (Nat.le_refl _)
      subst h1
      refine ⟨xs, .one ?_, ?_, h2⟩
      · obtain ⟨ab, ao, asp⟩ := a
        have at0 : ∀ (j : Nat) (p : α), xs[j]? = some p → ∀ i, i < sz → ∃ u, W.cell? ⟨ab, ao + (j * sz + i), none⟩ = some u ∧ ∀ x, (row p)[i]? = some x → Rd W (fun b => b < W.heap.size) x u := by
          intro j p hj i hi
          obtain ⟨c, c1, c2, c3⟩ := h3 j p hj
          obtain ⟨u, hu2⟩ : ∃ u, c[i]? = some u := ⟨c[i]'(by omega), List.getElem?_eq_getElem _⟩
          have h4 := c3 i u hu2
          refine ⟨u, ?_, fun x hx => c2.2 i x u hx hu2⟩
          by_cases h0 : j * sz + i = 0
          · rw [h0] at h4 ⊢
            have : asp = none := by
              unfold World.cell? at h4
              simp only [Addr.add] at h4
              cases asp with
              | none => rfl
              | some q => simp at h4; split at h4 <;> simp at h4
            subst this
            exact h4
          · unfold Addr.add at h4
            rw [if_neg h0] at h4
            exact h4
        cases xs with
        | nil => exact .nil ..
        | cons x0 xs0 =>
          obtain ⟨u0, hu0, _⟩ := at0 0 x0 rfl 0 hs
          have hab : ab < W.heap.size := by
            unfold World.cell? at hu0
            simp only at hu0
            split at hu0
            · rename_i hh
              exact (Array.getElem?_eq_some_iff.1 hh).1
            · cases hu0
          have e1 : asp = none := by
            obtain ⟨c, c1, c2, c3⟩ := h3 0 x0 rfl
            have h4 := c3 0 (c[0]'(by omega)) (List.getElem?_eq_getElem _)
            simp only [Nat.zero_mul, Nat.add_zero, Addr.add, if_pos] at h4
            unfold World.cell? at h4
            cases asp with
            | none => rfl
            | some q => simp at h4; split at h4 <;> simp at h4
          subst e1
          have hrow : ∀ (i : Nat) (r : List T), ((x0 :: xs0).map row)[i]? = some r → ∃ p, (x0 :: xs0)[i]? = some p ∧ r = row p := by
            intro i r hr
            rw [List.getElem?_map] at hr
            cases hp : (x0 :: xs0)[i]? with
            | none => rw [hp] at hr; cases hr
            | some p => rw [hp] at hr; cases hr; exact ⟨p, rfl, rfl⟩
          have hfin := @Rd.list W (fun b => b < W.heap.size) false sz ((x0 :: xs0).map row) ab ao cap (fun i j => (W.cell? ⟨ab, ao + (i * sz + j), none⟩).getD Go.undef) (by simpa using hl) hab
            (fun i r hr => by obtain ⟨p, _, rfl⟩ := hrow i r hr; exact he.len p)
            (fun i r j x hr hx => by
              obtain ⟨p, hp, rfl⟩ := hrow i r hr
              obtain ⟨u, hu1, _⟩ := at0 i p hp j (by have := (List.getElem?_eq_some_iff.1 hx).1; rw [he.len] at this; exact this)
              simp only [hu1, Option.getD_some])
            (fun i r j x hr hx => by
              obtain ⟨p, hp, rfl⟩ := hrow i r hr
              obtain ⟨u, hu1, hu2⟩ := at0 i p hp j (by have := (List.getElem?_eq_some_iff.1 hx).1; rw [he.len] at this; exact this)
              simp only [hu1, Option.getD_some]
              exact hu2 x hx)
          rwa [List.length_map] at hfin
      have hw1 : (elems.length + rest.length) * P.bytesOf e ≤ reachBytes := by simpa using hw0
      rw [hB] at hw1
      rw [← hlen]
      exact Nat.le_trans (Nat.mul_le_mul_right _ (Nat.le_add_right _ _)) hw1
structure OpnF (P : Program) (fs : List Field) (o sz : Nat) {α : Type} (row : α → List T) (G : α → Prop) : Prop where
  len : ∀ x, (row x).length = sz
  op : ∀ {H : Type} {enc : TypeId × Value → H} {W : World} {fuel : Nat} {cs : List Value} {xs : List (DataW H × List MemPlace)},
    xs.length = fs.length → (∀ (i : Nat) (f : Field), fs[i]? = some f → DataW.trod enc P W 0 (fun _ => true) true fuel f.type ((cs.drop f.offset).take (P.cellsOf f.type)) = xs[i]?) →
    (∀ n ∈ DataW.weightsEach P (fs.map (·.type)) (xs.map (·.1)), n ≤ reachBytes) → cs.length = o + sz → ∃ x, RdRow W (row x) (cs.drop o) ∧ G x
theorem OpnF.one {f : Field} {o sz : Nat} {α : Type} {row : α → List T} {G : α → Prop} (he : Opn P f.type sz row G) (ho : f.offset = o) (hc : P.cellsOf f.type = sz) : OpnF P [f] o sz row G where
  len := he.len
  op := fun {H enc W fuel cs xs} hx h hz hl => by
    match xs, hx with
    | [y], _ =>
      have hy := h 0 f rfl
      rw [ho, hc, List.take_of_length_le (by simp; omega)] at hy
      exact he.op (show _ = some (y.1, y.2) from hy) (fun n hn => hz n (by simp only [List.map_cons, List.map_nil, DataW.weightsEach]; exact List.mem_append_left _ hn))
theorem OpnF.cons {f : Field} {r : List Field} {o sz sz2 : Nat} {α β : Type} {row : α → List T} {row2 : β → List T} {G : α → Prop} {G2 : β → Prop} (he : Opn P f.type sz row G) (ho : f.offset = o) (hc : P.cellsOf f.type = sz) (hr : OpnF P r (o + sz) sz2 row2 G2) :
    OpnF P (f :: r) o (sz + sz2) (fun x : α × β => row x.1 ++ row2 x.2) (fun x => G x.1 ∧ G2 x.2) where
  len := fun x => by rw [List.length_append, he.len, hr.len]
  op := fun {H enc W fuel cs xs} hx h hz hl => by
    match xs, hx with
    | y :: ys, hx =>
      have hl2 : cs.length = o + sz + sz2 := by omega
      have hy := h 0 f rfl
      rw [ho, hc] at hy
      obtain ⟨x, hK, hG⟩ := he.op (show _ = some (y.1, y.2) from hy) (fun n hn => hz n (by simp only [List.map_cons, DataW.weightsEach]; exact List.mem_append_left _ hn))
      obtain ⟨x2, hK2, hG2⟩ := hr.op (xs := ys) (by simpa using hx) (fun i g hg => h (i + 1) g hg) (fun n hn => hz n (by simp only [List.map_cons, DataW.weightsEach]; exact List.mem_append_right _ hn)) hl2
      refine ⟨(x, x2), ?_, hG, hG2⟩
      have := hK.append hK2
      rwa [← List.drop_drop, List.take_append_drop] at this
theorem Opn.struct {fs : Array Field} {sz : Nat} {α β : Type} {row : α → List T} {row2 : β → List T} {G : α → Prop} {G2 : β → Prop} (g : α → β) (hf : OpnF P fs.toList 0 sz row G) (hu : P.underlying t = some (.struct fs)) (hg : ∀ a, row2 (g a) = row a) (hG2 : ∀ a, G a → G2 (g a)) (hlen : ∀ b, (row2 b).length = sz) (hc : P.cellsOf t = sz) :
    Opn P t sz row2 G2 where
  len := hlen
  op := fun {H enc W fuel cs D ps} h hz => by
    obtain ⟨xs, n, _, hx, hl, hm, he⟩ := DataW.trod_struct hu h
    obtain ⟨rfl, _⟩ := Prod.mk.inj hx
    obtain ⟨x, hK, hG⟩ := hf.op (xs := xs) (by simpa using hm) (fun i f hf => he i f (by simpa using hf)) (fun n hn => hz n (by simp only [DataW.weights, hu]; exact hn)) (by omega)
    exact ⟨g x, by rw [hg]; simpa using hK, hG2 x hG⟩
end
theorem each_of {H : Type} {P : Program} {ts : List TypeId} {ds : List (DataW H)} (h : (DataW.weightsEach P ts ds).all (· ≤ reachBytes) = true) {j : Nat} {t : TypeId} {D : DataW H} (ht : ts[j]? = some t) (hd : ds[j]? = some D) : ∀ n ∈ DataW.weights P t D, n ≤ reachBytes := by
  intro n hn
  have := List.all_eq_true.1 h _ (DataW.weights_mem_each ht hd n hn)
  simpa using this
theorem arg_one {W : World} {t : T} {v : Value} (hv : v.cells.toList = [v]) (h : RdRow W [t] v.cells.toList) : AVr (inCx W fun b => b < W.heap.size) (.t t) v := by
  rw [hv] at h
  exact h.2 0 t v rfl rfl
theorem out_bool {w w' : World} {D : Dm} {b : Bool} {v : Value} (h : Out w D w' (.t (.bool b)) v) : v = .bool b ∧ Below w.heap.size w w' := by
  obtain ⟨h1, col, _, h2⟩ := h
  refine ⟨?_, h1.os, h1.tape, h1.output, h1.size, fun k hk => h1.block k hk (by simp)⟩
  have h3 : Rd (outCx w D w' col).w (outCx w D w' col).Dp (.bool b) v := h2
  cases h3
  rfl
end Go.Proofs.YtcpfhonmdbhdbaaGreatDoor.Am
namespace Go.Proofs.YtcpfhonmdbhdbaaGreatDoor.Am
open Go
set_option linter.unusedVariables false
set_option linter.unusedSimpArgs false
set_option maxRecDepth 100000
theorem lG_mk {α : Type} {G : α → Prop} {B : Nat} {xs : List α} (hB : 1 ≤ B) (h : xs.length * B ≤ 140737488351232 ∧ ∀ x ∈ xs, G x) : lG G xs :=
  ⟨Nat.le_trans (Nat.le_mul_of_pos_right _ hB) h.1, h.2⟩
def Stm.row (x : Stm) : List T := [.int .i64 x.last.t, .int .i64 x.last.n, .list false 3 (x.items.map It.row), .list false 4 (x.groups.map Gr.row)]
theorem Opn.weaken {P : Program} {t : TypeId} {sz : Nat} {α : Type} {row : α → List T} {G G' : α → Prop} (h : Opn P t sz row G) (hg : ∀ x, G x → G' x) : Opn P t sz row G' :=
  ⟨h.len, fun h1 h2 => by obtain ⟨x, a, b⟩ := h.op h1 h2; exact ⟨x, a, hg x b⟩⟩
end Go.Proofs.YtcpfhonmdbhdbaaGreatDoor.Am
namespace Go.Proofs.YtcpfhonmdbhdbaaGreatDoor.Am
open Go
set_option linter.unusedVariables false
set_option linter.unusedSimpArgs false
set_option maxRecDepth 100000
def isB (x : Int) : Prop := 0 ≤ x ∧ x ≤ 255
theorem opn_byte : Opn Tryz.prog 5 1 (fun x : Int => [T.int .u8 x]) isB :=
  (Opn.int Tryz.underlying5).weaken fun x h => by
    simp [Lit.wf, IntKind.min, IntKind.max, IntKind.signed, IntKind.bits] at h
    unfold isB; omega
theorem opn_bytes : Opn Tryz.prog 22 1 (fun xs : List Int => [T.list false 1 (xs.map fun b => [T.int .u8 b])]) (lG isB) :=
  (Opn.slice opn_byte Tryz.underlying22 (by kernel_rfl) (by omega) (B := 1) (by kernel_rfl)).weaken fun _ => lG_mk (by omega)
end Go.Proofs.YtcpfhonmdbhdbaaGreatDoor.Am
namespace Go.Proofs.YtcpfhonmdbhdbaaGreatDoor.Am
open Go
set_option maxRecDepth 100000
set_option maxHeartbeats 2000000
set_option linter.unusedSimpArgs false
set_option linter.unusedVariables false
abbrev s0 : AV := .t (.str ⟨#[]⟩)
abbrev b0 : Bs := ⟨0, []⟩
abbrev wr0 (sh : Bool) : List AV := [s0, I 0, Bo sh, Bo false]
theorem p_wbyte : Plain Tryz.prog 156 := ⟨_, Tryz.func156, rfl, by decide⟩
theorem s_wbyte0 (sh : Bool) (b : Int) : SpecO Tryz.prog 156 [.ptr 9000 0 0, .t (.int .u8 b)] [(9000, .box (wr0 sh))] (fun r h => r = .tup [] ∧ h = [(9000, .box (wr0 true))]) := by
  refine SpecO.of tysOk mixed Tryz.func156 rfl (by decide) ?_
  have hz : ((⟨#[]⟩ : ByteArray).size : Int) = 0 := rfl
  cases sh
  · simp -implicitDefEqProofs only [go_sem, Tryz.f156]
    refine RegD_of sch_156_2 tysOk (by kernel_rfl) ?_
    simp -implicitDefEqProofs only [go_sem, hz, Int.natCast_zero, eq_self, decide_true]
  · simp -implicitDefEqProofs only [go_sem, Tryz.f156]
theorem p_wnumber : Plain Tryz.prog 155 := ⟨_, Tryz.func155, rfl, by decide⟩
theorem s_wnumber0 (b lo hi : Int) : SpecO Tryz.prog 155 [.ptr 9000 0 0, .t (.int .u8 b), I lo, I hi] [(9000, .box (wr0 false))] (fun r h => r = I 0 ∧ h = [(9000, .box (wr0 true))]) := by
  refine SpecO.of tysOk mixed Tryz.func155 rfl (by decide) ?_
  simp -implicitDefEqProofs only [go_sem, Tryz.f155]
  have p_wbyte0 := p_wbyte
  refine CallW.o [(9000, 9000)] (s_wbyte0 false b) p_wbyte0 o156 rfl (by (conv => lhs; simp -implicitDefEqProofs only [go_sem]) <;> rfl) (by (simp -implicitDefEqProofs only [go_sem]) <;> rfl) ?_
  rintro _ _ ⟨rfl, rfl⟩
  simp -implicitDefEqProofs only [go_sem]
  refine RegD_of sch_155_2 tysOk (by kernel_rfl) ?_
  simp -implicitDefEqProofs only [go_sem]
  refine LoopW.slotsM [true, false, true, true, false, false, false, false, false, true, true, false, false, false, false, false, false, false, false, false, false, false, false, false, false, false, false, false, false, false, false, false, false, false, false, false, false, false, false, false, false, false, false, false, false, false, false, false, false, false, false, false, false, false, false, false, false, false, false, false, false, false, false, false, false, false, false, false, false, false, false, false, false, false, false, false, false, false, false, false, false, false, false, false, false, false, false, false, false, false, false, false, false, false, false, false, false, false, false, false, false, false, false, false, false, false, false, false, false, false, false, false, false, false] (α := Unit) (fun _ => [(9, I 0), (10, I 0)]) (fun _ => [(9000, .box (wr0 true))]) (fun _ => 0) (fun _ => True) () (by simp -implicitDefEqProofs only [go_sem, LeTs_undef, LeTs_same, LeTs_nil]; try simp [LeTs]) rfl trivial ?_
  rintro ⟨⟩ -
  simp -implicitDefEqProofs only [go_sem]
  refine CallW.o [(9000, 9000)] (s_wbyte0 true 13) p_wbyte0 o156 rfl (by (conv => lhs; simp -implicitDefEqProofs only [go_sem]) <;> rfl) (by (simp -implicitDefEqProofs only [go_sem]) <;> rfl) ?_
  rintro _ _ ⟨rfl, rfl⟩
  simp -implicitDefEqProofs only [go_sem]
  refine CallW.o [(9000, 9000)] (s_wbyte0 true 10) p_wbyte0 o156 rfl (by (conv => lhs; simp -implicitDefEqProofs only [go_sem]) <;> rfl) (by (simp -implicitDefEqProofs only [go_sem]) <;> rfl) ?_
  rintro _ _ ⟨rfl, rfl⟩
  simp -implicitDefEqProofs only [go_sem]
theorem p_OrderGet : Plain Tryz.prog 98 := ⟨_, Tryz.func98, rfl, by decide⟩
theorem s_OrderGet0 : Spec Tryz.prog 98 [s0] (fun r => r = .tup [.own (.list true 1 []), I 0]) := by
  refine Spec.of tysOk mixed Tryz.func98 rfl (by decide) ?_
  simp -implicitDefEqProofs only [go_sem, Tryz.f98]
  have p_wnumber0 := p_wnumber
  refine CallW.o [(9000, 88)] (s_wnumber0 42 1 8) p_wnumber0 o155 rfl (by (conv => lhs; simp -implicitDefEqProofs only [go_sem]) <;> rfl) (by (simp -implicitDefEqProofs only [go_sem]) <;> rfl) ?_
  rintro _ _ ⟨rfl, rfl⟩
  simp -implicitDefEqProofs only [go_sem]
  refine LoopW.slotsM [true, false, false, false, true, true, true, true, false, false, false, false, false, false, false, false, false, false, false, false, false, false, false, false, false, false, false, false, false, false, false, false, false, false, false, false, false, false, false, false, false, false, false, false, false, false, false, false, false, false, false, false, false, false, false, false, false, false, false, false, false, false, false, false, false, false, false, false, false, false, false, false, false, false, false, false, false, false, false, false, false, false, false, false, false, false, false, false, false, false, false, false, false, false, false, false, false, false, false, false, false, false] (α := Unit) (fun _ => [(7, I 0)]) (fun _ => [(88, .box (wr0 true)), (112, .rows 1 [])]) (fun _ => 0) (fun _ => True) () (by simp -implicitDefEqProofs only [go_sem, LeTs_undef, LeTs_same, LeTs_nil]; try simp [LeTs]) rfl trivial ?_
  rintro ⟨⟩ -
  simp -implicitDefEqProofs only [go_sem, Int.lt_irrefl, decide_false]
theorem p_RecordGet : Plain Tryz.prog 66 := ⟨_, Tryz.func66, rfl, by decide⟩
theorem s_RecordGet0 : Spec Tryz.prog 66 [s0] (fun r => r = .tup [I 0, .own (.list true 1 []), I 0]) := by
  refine Spec.of tysOk mixed Tryz.func66 rfl (by decide) ?_
  simp -implicitDefEqProofs only [go_sem, Tryz.f66]
  have p_OrderGet0 := p_OrderGet
  refine CallW.onep (s_OrderGet0) p_OrderGet0 (by first | (simp -implicitDefEqProofs only [go_sem]; done) | ((conv => lhs; simp -implicitDefEqProofs only [go_sem]); done) | (simp -implicitDefEqProofs only [go_sem]; rfl) | rfl) rfl ?_
  simp -implicitDefEqProofs only [go_sem, Int.le_refl, decide_true]
theorem p_FileBase : Plain Tryz.prog 45 := ⟨_, Tryz.func45, rfl, by decide⟩
theorem s_FileBase0 : Spec Tryz.prog 45 [s0] (fun r => r = .tup [b0.avO, I 0]) := by
  refine Spec.of tysOk mixed Tryz.func45 rfl (by decide) ?_
  simp -implicitDefEqProofs only [go_sem, Tryz.f45]
  have p_RecordGet0 := p_RecordGet
  have hx : (⟨#[]⟩ : ByteArray).extract (Int.toNat 0) 0 = ⟨#[]⟩ := by decide
  refine LoopW.slotsM [true, false, true, false, true, true, false, false, false, false, false, false, false, false, false, false, false, false, false, false, false, false, false, false, false, false, false, false, false, false, false, false, false, false, false, false, false, false, false, false, false, false, false, false, false, false, false, false, false, false, false, false, false, false, false, false, false, false, false, false, false, false, false] (α := Unit) (fun _ => [(5, I 0)]) (fun _ => [(16, .box [I 0, .nils 7]), (32, .box [I 0, .refw 112]), (112, .rows 7 [])]) (fun _ => 0) (fun _ => True) () (by simp -implicitDefEqProofs only [go_sem, LeTs_undef, LeTs_same, LeTs_nil]; try simp [LeTs]) rfl trivial ?_
  rintro ⟨⟩ -
  simp -implicitDefEqProofs only [go_sem, hx]
  refine ⟨⟨by omega, by omega⟩, ?_⟩
  refine CallW.onep (s_RecordGet0) p_RecordGet0 (by first | (simp -implicitDefEqProofs only [go_sem]; done) | ((conv => lhs; simp -implicitDefEqProofs only [go_sem]); done) | (simp -implicitDefEqProofs only [go_sem]; rfl) | rfl) rfl ?_
  simp -implicitDefEqProofs only [go_sem, eq_self, decide_true]
  rfl
theorem p_BaseTick : Plain Tryz.prog 47 := ⟨_, Tryz.func47, rfl, by decide⟩
theorem s_BaseTick0 : Spec Tryz.prog 47 [b0.av, I 0] (fun r => r = b0.avO) := by
  refine Spec.of tysOk mixed Tryz.func47 rfl (by decide) ?_
  have hl : b0.lim := ⟨by decide, fun e he => by cases he⟩
  have hb : baseOkM b0 = true := by decide
  have w0 : IntKind.i64.wrap (1000000 - 0) = 1000000 := by decide
  have w1 : IntKind.i64.wrap (0 + 0) = 0 := by decide
  simp -implicitDefEqProofs only [go_sem, Tryz.f47]
  refine CallW.one (s_BaseOk b0 hl) p_BaseOk (by first | (simp -implicitDefEqProofs only [go_sem]; done) | ((conv => lhs; simp -implicitDefEqProofs only [go_sem]); done) | (simp -implicitDefEqProofs only [go_sem]; rfl) | rfl) (by first | trivial | (simp [DeepR, DeepV, DeepVs, DeepC, DeepCs, T.scal]; done)) ?_
  rw [hb]
  simp -implicitDefEqProofs only [go_sem, Bool.not_true, w0, w1, Int.lt_irrefl, decide_false]
  refine BrA_i (fun h => absurd h (by decide)) (fun _ => ?_)
  simp -implicitDefEqProofs only [go_sem, w1]
  refine LoopW.slotsM [false, false, false, false, true, true, false, false, false, false, false, false, false, false, false, false, false, false, false, false, false, false, false, false, false, false, false, false, false, false, true, true, true, false, false, false, false, false, false, false, false, false, false, false, false, false, false, false, false, false, false, false, false, false, false] (α := Unit) (fun _ => [(32, I 0)]) (fun _ => [(16, .box [I 0, .t (.list false 7 [])]), (32, .box [I 0, .nils 7]), (40, .box [I 0, .refw 216]), (216, .rows 7 [])]) (fun _ => 0) (fun _ => True) () (by simp -implicitDefEqProofs only [go_sem, LeTs_undef, LeTs_same, LeTs_nil]; try simp [LeTs]) rfl trivial ?_
  rintro ⟨⟩ -
  simp -implicitDefEqProofs only [go_sem, Int.lt_irrefl, decide_false, List.map_nil, List.length_nil, Int.natCast_zero]
  rfl
theorem deep_b0 : DeepR b0.avO := ⟨trivial, .list _ _ (fun r hr => by simp at hr), trivial⟩
theorem p_EqualEn : Plain Tryz.prog 68 := ⟨_, Tryz.func68, rfl, by decide⟩
theorem s_EqualEn0 : Spec Tryz.prog 68 [.t (.list false 7 []), .t (.list false 7 []), .fn 69 []] (fun r => r = Bo true) := by
  refine Spec.of tysOk mixed Tryz.func68 rfl (by decide) ?_
  simp -implicitDefEqProofs only [go_sem, Tryz.f68, eq_self, decide_true, List.length_nil, Int.natCast_zero]
  refine LoopW.slotsM [false, true, true, false, false, false, false, false, false, false, false, false, false, false, false, true, true, true, false, false, false, false, false, false, false, false, false, false, false, false, false, false] (α := Unit) (fun _ => [(17, I 0)]) (fun _ => []) (fun _ => 0) (fun _ => True) () (by simp -implicitDefEqProofs only [go_sem, LeTs_undef, LeTs_same, LeTs_nil]; try simp [LeTs]) rfl trivial ?_
  rintro ⟨⟩ -
  simp -implicitDefEqProofs only [go_sem, Int.lt_irrefl, decide_false, List.length_nil, Int.natCast_zero]
theorem p_sameBase : Plain Tryz.prog 46 := ⟨_, Tryz.func46, rfl, by decide⟩
theorem s_sameBase0 : Spec Tryz.prog 46 [b0.av, b0.av] (fun r => r = Bo true) := by
  refine Spec.of tysOk mixed Tryz.func46 rfl (by decide) ?_
  simp -implicitDefEqProofs only [go_sem, Tryz.f46, eq_self, decide_true]
  have p_EqualEn0 := p_EqualEn
  refine CallW.one (s_EqualEn0) p_EqualEn0 (by first | (simp -implicitDefEqProofs only [go_sem]; done) | ((conv => lhs; simp -implicitDefEqProofs only [go_sem]); done) | (simp -implicitDefEqProofs only [go_sem]; rfl) | rfl) (by first | trivial | (simp [DeepR, DeepV, DeepVs, DeepC, DeepCs, T.scal]; done)) ?_
  simp -implicitDefEqProofs only [go_sem]
theorem p_fileFits : Plain Tryz.prog 31 := ⟨_, Tryz.func31, rfl, by decide⟩
theorem s_fileFits0 : Spec Tryz.prog 31 [s0, b0.av] (fun r => r = Bo true) := by
  refine Spec.of tysOk mixed Tryz.func31 rfl (by decide) ?_
  have hl : b0.lim := ⟨by decide, fun e he => by cases he⟩
  have hb : baseOkM b0 = true := by decide
  have w0 : IntKind.i64.wrap (0 - 0) = 0 := by decide
  simp -implicitDefEqProofs only [go_sem, Tryz.f31, Int.natCast_zero]
  refine BrA_i (fun h => absurd h (by decide)) (fun _ => ?_)
  simp -implicitDefEqProofs only [go_sem]
  refine CallW.one (s_BaseOk b0 hl) p_BaseOk (by first | (simp -implicitDefEqProofs only [go_sem]; done) | ((conv => lhs; simp -implicitDefEqProofs only [go_sem]); done) | (simp -implicitDefEqProofs only [go_sem]; rfl) | rfl) (by first | trivial | (simp [DeepR, DeepV, DeepVs, DeepC, DeepCs, T.scal]; done)) ?_
  rw [hb]
  simp -implicitDefEqProofs only [go_sem, Bool.not_true]
  have p_FileBase0 := p_FileBase
  refine CallW.onep (s_FileBase0) p_FileBase0 (by first | (simp -implicitDefEqProofs only [go_sem]; done) | ((conv => lhs; simp -implicitDefEqProofs only [go_sem]); done) | (simp -implicitDefEqProofs only [go_sem]; rfl) | rfl) rfl ?_
  simp -implicitDefEqProofs only [go_sem]
  have p_BaseTick0 := p_BaseTick
  have p_sameBase0 := p_sameBase
  refine RegD_to sch_31_4 ?sx1 tysOk (by kernel_rfl) ?ga1 ?gb1
  case ga1 =>
    simp -implicitDefEqProofs only [go_sem, Int.natCast_zero, eq_self, decide_true, Int.le_refl, w0]
    refine CallW.one (s_BaseTick0) p_BaseTick0 (by first | (simp -implicitDefEqProofs only [go_sem]; done) | ((conv => lhs; simp -implicitDefEqProofs only [go_sem]); done) | (simp -implicitDefEqProofs only [go_sem]; rfl) | rfl) (deep_b0) ?_
    simp -implicitDefEqProofs only [go_sem]
    refine CallW.one (s_sameBase0) p_sameBase0 (by first | (simp -implicitDefEqProofs only [go_sem]; done) | ((conv => lhs; simp -implicitDefEqProofs only [go_sem]); done) | (simp -implicitDefEqProofs only [go_sem]; rfl) | rfl) (by first | trivial | (simp [DeepR, DeepV, DeepVs, DeepC, DeepCs, T.scal]; done)) ?_
    simp -implicitDefEqProofs only [go_sem]
    try repeat' (first
      | (with_reducible refine And.intro ?_ ?_)
      | (refine CallW.one (s_BaseTick0) p_BaseTick0 (by first | (simp -implicitDefEqProofs only [go_sem]; done) | ((conv => lhs; simp -implicitDefEqProofs only [go_sem]); done) | (simp -implicitDefEqProofs only [go_sem]; rfl) | rfl) (deep_b0) ?_; simp -implicitDefEqProofs only [go_sem])
      | (refine CallW.one (s_sameBase0) p_sameBase0 (by first | (simp -implicitDefEqProofs only [go_sem]; done) | ((conv => lhs; simp -implicitDefEqProofs only [go_sem]); done) | (simp -implicitDefEqProofs only [go_sem]; rfl) | rfl) (by first | trivial | (simp [DeepR, DeepV, DeepVs, DeepC, DeepCs, T.scal]; done)) ?_; simp -implicitDefEqProofs only [go_sem])
      | exact rfl)
  simp -implicitDefEqProofs only [go_sem]
theorem p_clientOk : Plain Tryz.prog 37 := ⟨_, Tryz.func37, rfl, by decide⟩
theorem s_clientOk0 : Spec Tryz.prog 37 [clZ.av] (fun r => r = Bo true) := by
  show Spec Tryz.prog 37 [.agg [Bo false, Bo false, .t (.list false 1 []), .t (.list false 1 []), Bo false, .t (.list false 1 [])]] _
  refine Spec.of tysOk mixed Tryz.func37 rfl (by decide) ?_
  simp -implicitDefEqProofs only [go_sem, Tryz.f37]
  refine LoopW.slotsM [false, true, false, false, false, false, false, false, true, true, true, false, false, false, false, false, false, false, false, false, false, false, false, false, false, false, false, false, false, false, false, false, false, false, false, false, false, false, false, false, false, false, false, false, false, false, false, false, false, false, false, false, false, false, false, false, false, false, false, false, false, false, false, false, false, false, false, false, false, false, false, false, false, false, false, false, false, false, false, false, false, false, false, false, false, false, false, false, false] (α := Unit) (fun _ => [(10, I 0)]) (fun _ => [(8, .box [Bo false, Bo false, .t (.list false 1 []), .t (.list false 1 []), Bo false, .t (.list false 1 [])])]) (fun _ => 0) (fun _ => True) () (by simp -implicitDefEqProofs only [go_sem, LeTs_undef, LeTs_same, LeTs_nil]; try simp [LeTs]) rfl trivial ?_
  rintro ⟨⟩ -
  simp -implicitDefEqProofs only [go_sem, Int.lt_irrefl, decide_false, List.length_nil, Int.natCast_zero]
  refine LoopW.slotsM [false, true, false, false, false, false, false, false, false, false, false, false, false, false, false, false, false, false, false, true, true, true, false, false, false, false, false, false, false, false, false, false, false, false, false, false, false, false, false, false, false, false, false, false, false, false, false, false, false, false, false, false, false, false, false, false, false, false, false, false, false, false, false, false, false, false, false, false, false, false, false, false, false, false, false, false, false, false, false, false, false, false, false, false, false, false, false, false, false] (α := Unit) (fun _ => [(21, I 0)]) (fun _ => [(8, .box [Bo false, Bo false, .t (.list false 1 []), .t (.list false 1 []), Bo false, .t (.list false 1 [])])]) (fun _ => 0) (fun _ => True) () (by simp -implicitDefEqProofs only [go_sem, LeTs_undef, LeTs_same, LeTs_nil]; try simp [LeTs]) rfl trivial ?_
  rintro ⟨⟩ -
  simp -implicitDefEqProofs only [go_sem, Int.lt_irrefl, decide_false, List.length_nil, Int.natCast_zero]
  refine BrA_i (fun h => absurd h (by decide)) (fun _ => ?_)
  simp -implicitDefEqProofs only [go_sem]
  repeat' (first
    | (refine BrA_i (fun h => absurd h (by decide)) (fun _ => ?_); simp -implicitDefEqProofs only [go_sem])
    | (refine BrA_i (fun _ => ?_) (fun h => absurd h (by decide)); simp -implicitDefEqProofs only [go_sem]))
  refine CallW.one (s_SetOk [] (by decide)) p_SetOk (by first | (simp -implicitDefEqProofs only [go_sem]; done) | ((conv => lhs; simp -implicitDefEqProofs only [go_sem]); done) | (simp -implicitDefEqProofs only [go_sem]; rfl) | rfl) (by first | trivial | (simp [DeepR, DeepV, DeepVs, DeepC, DeepCs, T.scal]; done)) ?_
  have hs : setOkM [] = true := by decide
  rw [hs]
  simp -implicitDefEqProofs only [go_sem]
  repeat' (first
    | (refine BrA_i (fun h => absurd h (by decide)) (fun _ => ?_); simp -implicitDefEqProofs only [go_sem])
    | (refine BrA_i (fun _ => ?_) (fun h => absurd h (by decide)); simp -implicitDefEqProofs only [go_sem]))
  rfl
theorem p_ServerOk : Plain Tryz.prog 23 := ⟨_, Tryz.func23, rfl, by decide⟩
theorem s_ServerOk0 (l : List Cl) (hl : 1 ≤ l.length ∧ l.length ≤ 3) (hc : ∀ c ∈ l, c = clZ) : Spec Tryz.prog 23 [(⟨b0, ⟨#[]⟩, l⟩ : Sv).av] (fun r => r = Bo true) := by
  refine Spec.of tysOk mixed Tryz.func23 rfl (by decide) ?_
  simp -implicitDefEqProofs only [go_sem, Tryz.f23]
  have p_fileFits0 := p_fileFits
  refine CallW.one (s_fileFits0) p_fileFits0 (by first | (simp -implicitDefEqProofs only [go_sem]; done) | ((conv => lhs; simp -implicitDefEqProofs only [go_sem]); done) | (simp -implicitDefEqProofs only [go_sem]; rfl) | rfl) (by first | trivial | (simp [DeepR, DeepV, DeepVs, DeepC, DeepCs, T.scal]; done)) ?_
  simp -implicitDefEqProofs only [go_sem, Bool.not_true]
  refine CallW.one (s_within l.length 1 3) p_within (by first | (simp -implicitDefEqProofs only [go_sem]; done) | ((conv => lhs; simp -implicitDefEqProofs only [go_sem]); done) | (simp -implicitDefEqProofs only [go_sem]; rfl) | rfl) (by first | trivial | (simp [DeepR, DeepV, DeepVs, DeepC, DeepCs, T.scal]; done)) ?_
  have hw : withinM (l.length : Int) 1 3 = true := by simp [withinM]; omega
  rw [hw]
  simp -implicitDefEqProofs only [go_sem, Bool.not_true]
  refine LoopW.slotsM [false, false, false, false, false, false, false, false, false, false, false, false, false, false, false, false, false, false, false, true, true, true, false, false, false, false, false, false, false] (α := Nat) (fun i => [(21, I i)]) (fun _ => [(8, .box [I 0, .t (.list false 7 []), s0, .t (.list false 6 (l.map Cl.row))])]) (fun i => l.length - i) (fun i => i ≤ l.length) 0 (by simp -implicitDefEqProofs only [go_sem, LeTs_undef, LeTs_same, LeTs_nil]; try simp [LeTs]) rfl (by omega) ?_
  intro i hi
  simp -implicitDefEqProofs only [go_sem]
  refine BrA_i (fun h => ?_) (fun h => ?_) <;> simp -implicitDefEqProofs only [go_sem]
  · skip
    have h : i < l.length := by simp at h; omega
    have h0i : (0 : Int) ≤ i := by omega
    have h1i : (i : Int) < l.length := by omega
    have wi : IntKind.i64.wrap ((i : Int) + 1) = ((i + 1 : Nat) : Int) := by rw [wrap64 (by omega) (by omega)]; omega
    have r1 := row_getD Cl.row l h
    simp only [Cl.row, hc _ (List.getElem_mem h)] at r1
    simp -implicitDefEqProofs only [go_sem, h, h0i, h1i, r1]
    have p_clientOk0 := p_clientOk
    refine CallW.one (s_clientOk0) p_clientOk0 (by first | (simp -implicitDefEqProofs only [go_sem]; done) | ((conv => lhs; simp -implicitDefEqProofs only [go_sem]); done) | (simp -implicitDefEqProofs only [go_sem]; rfl) | rfl) (by first | trivial | (simp [DeepR, DeepV, DeepVs, DeepC, DeepCs, T.scal]; done)) ?_
    simp -implicitDefEqProofs only [go_sem, Bool.not_true]
    refine .to [32, 209, 210, 211] (i + 1) rfl ?_ ?_ (by omega) (by omega) <;> (try simp -implicitDefEqProofs only [go_sem, LeTs_undef, LeTs_same, LeTs_nil, wi])
theorem p_LeaderOk : Plain Tryz.prog 10 := ⟨_, Tryz.func10, rfl, by decide⟩
theorem s_LeaderOk0 (l : List Cl) (hl : 1 ≤ l.length ∧ l.length ≤ 3) (hc : ∀ c ∈ l, c = clZ) : Spec Tryz.prog 10 [(⟨⟨b0, ⟨#[]⟩, l⟩, 1⟩ : Ld).av] (fun r => r = Bo true) := by
  refine Spec.of tysOk mixed Tryz.func10 rfl (by decide) ?_
  simp -implicitDefEqProofs only [go_sem, Tryz.f10]
  have p_ServerOk0 := p_ServerOk
  refine CallW.one (s_ServerOk0 l hl hc) p_ServerOk0 (by first | (simp -implicitDefEqProofs only [go_sem]; done) | ((conv => lhs; simp -implicitDefEqProofs only [go_sem]); done) | (simp -implicitDefEqProofs only [go_sem]; rfl) | rfl) (by first | trivial | (simp [DeepR, DeepV, DeepVs, DeepC, DeepCs, T.scal]; done)) ?_
  simp -implicitDefEqProofs only [go_sem]
  refine CallW.one (s_within 1 1 1000000000) p_within (by first | (simp -implicitDefEqProofs only [go_sem]; done) | ((conv => lhs; simp -implicitDefEqProofs only [go_sem]); done) | (simp -implicitDefEqProofs only [go_sem]; rfl) | rfl) (by first | trivial | (simp [DeepR, DeepV, DeepVs, DeepC, DeepCs, T.scal]; done)) ?_
  simp -implicitDefEqProofs only [go_sem]
  rfl
abbrev fo0 : Fo := ⟨0, ⟨#[]⟩, b0⟩
theorem p_FollowerOk : Plain Tryz.prog 15 := ⟨_, Tryz.func15, rfl, by decide⟩
theorem s_FollowerOk0 : Spec Tryz.prog 15 [fo0.av] (fun r => r = Bo true) := by
  show Spec Tryz.prog 15 [.agg [I 0, s0, I 0, .t (.list false 7 [])]] _
  refine Spec.of tysOk mixed Tryz.func15 rfl (by decide) ?_
  simp -implicitDefEqProofs only [go_sem, Tryz.f15, eq_self, decide_true, List.length_nil, Int.natCast_zero]
theorem p_HasPrefix : Plain Tryz.prog 51 := ⟨_, Tryz.func51, rfl, by decide⟩
theorem s_HasPrefix0 : Spec Tryz.prog 51 [s0, s0] (fun r => r = Bo true) := by
  refine Spec.of tysOk mixed Tryz.func51 rfl (by decide) ?_
  have hx : (⟨#[]⟩ : ByteArray).extract (Int.toNat 0) (Int.toNat 0) = ⟨#[]⟩ := by decide
  simp -implicitDefEqProofs only [go_sem, Tryz.f51, Int.natCast_zero, Int.le_refl, decide_true, ge_iff_le, hx, eq_self]
theorem p_CutPrefixL : Plain Tryz.prog 36 := ⟨_, Tryz.func36, rfl, by decide⟩
theorem s_CutPrefixL0 : Spec Tryz.prog 36 [s0, s0] (fun r => r = .tup [s0, Bo true]) := by
  refine Spec.of tysOk mixed Tryz.func36 rfl (by decide) ?_
  simp -implicitDefEqProofs only [go_sem, Tryz.f36]
  have p_HasPrefix0 := p_HasPrefix
  refine CallW.one (s_HasPrefix0) p_HasPrefix0 (by first | (simp -implicitDefEqProofs only [go_sem]; done) | ((conv => lhs; simp -implicitDefEqProofs only [go_sem]); done) | (simp -implicitDefEqProofs only [go_sem]; rfl) | rfl) (by first | trivial | (simp [DeepR, DeepV, DeepVs, DeepC, DeepCs, T.scal]; done)) ?_
  simp -implicitDefEqProofs only [go_sem, Bool.not_true]
  exact ⟨⟨by omega, by omega⟩, rfl⟩
theorem p_CutPrefix : Plain Tryz.prog 22 := ⟨_, Tryz.func22, rfl, by decide⟩
theorem s_CutPrefix0 : Spec Tryz.prog 22 [s0, s0] (fun r => r = .tup [s0, Bo true]) := by
  refine Spec.of tysOk mixed Tryz.func22 rfl (by decide) ?_
  simp -implicitDefEqProofs only [go_sem, Tryz.f22]
  have p_CutPrefixL0 := p_CutPrefixL
  refine CallW.one (s_CutPrefixL0) p_CutPrefixL0 (by first | (simp -implicitDefEqProofs only [go_sem]; done) | ((conv => lhs; simp -implicitDefEqProofs only [go_sem]); done) | (simp -implicitDefEqProofs only [go_sem]; rfl) | rfl) (by first | trivial | (simp [DeepR, DeepV, DeepVs, DeepC, DeepCs, T.scal]; done)) ?_
  simp -implicitDefEqProofs only [go_sem]
theorem p_PackFor : Plain Tryz.prog 9 := ⟨_, Tryz.func9, rfl, by decide⟩
theorem s_PackFor0 (l : List Cl) (hl : 1 ≤ l.length ∧ l.length ≤ 3) (hc : ∀ c ∈ l, c = clZ) : Spec Tryz.prog 9 [(⟨⟨b0, ⟨#[]⟩, l⟩, 1⟩ : Ld).av, fo0.av] (fun r => r = (⟨true, 1, 0, ⟨#[]⟩, 0⟩ : Pac).av) := by
  refine Spec.of tysOk mixed Tryz.func9 rfl (by decide) ?_
  simp -implicitDefEqProofs only [go_sem, Tryz.f9]
  have p_LeaderOk0 := p_LeaderOk
  refine CallW.one (s_LeaderOk0 l hl hc) p_LeaderOk0 (by first | (simp -implicitDefEqProofs only [go_sem]; done) | ((conv => lhs; simp -implicitDefEqProofs only [go_sem]); done) | (simp -implicitDefEqProofs only [go_sem]; rfl) | rfl) (by first | trivial | (simp [DeepR, DeepV, DeepVs, DeepC, DeepCs, T.scal]; done)) ?_
  simp -implicitDefEqProofs only [go_sem, Bool.not_true]
  have p_FollowerOk0 := p_FollowerOk
  refine CallW.one (s_FollowerOk0) p_FollowerOk0 (by first | (simp -implicitDefEqProofs only [go_sem]; done) | ((conv => lhs; simp -implicitDefEqProofs only [go_sem]); done) | (simp -implicitDefEqProofs only [go_sem]; rfl) | rfl) (by first | trivial | (simp [DeepR, DeepV, DeepVs, DeepC, DeepCs, T.scal]; done)) ?_
  simp -implicitDefEqProofs only [go_sem, Bool.not_true]
  have p_CutPrefix0 := p_CutPrefix
  refine CallW.one (s_CutPrefix0) p_CutPrefix0 (by first | (simp -implicitDefEqProofs only [go_sem]; done) | ((conv => lhs; simp -implicitDefEqProofs only [go_sem]); done) | (simp -implicitDefEqProofs only [go_sem]; rfl) | rfl) (by first | trivial | (simp [DeepR, DeepV, DeepVs, DeepC, DeepCs, T.scal]; done)) ?_
  simp -implicitDefEqProofs only [go_sem]
theorem p_FollowerLag : Plain Tryz.prog 11 := ⟨_, Tryz.func11, rfl, by decide⟩
theorem s_FollowerLag0 (l : List Cl) (hl : 1 ≤ l.length ∧ l.length ≤ 3) (hc : ∀ c ∈ l, c = clZ) : Spec Tryz.prog 11 [(⟨⟨b0, ⟨#[]⟩, l⟩, 1⟩ : Ld).av, fo0.av] (fun r => r = I 0) := by
  refine Spec.of tysOk mixed Tryz.func11 rfl (by decide) ?_
  simp -implicitDefEqProofs only [go_sem, Tryz.f11]
  have p_PackFor0 := p_PackFor
  refine CallW.one (s_PackFor0 l hl hc) p_PackFor0 (by first | (simp -implicitDefEqProofs only [go_sem]; done) | ((conv => lhs; simp -implicitDefEqProofs only [go_sem]); done) | (simp -implicitDefEqProofs only [go_sem]; rfl) | rfl) (by first | trivial | (simp [DeepR, DeepV, DeepVs, DeepC, DeepCs, T.scal]; done)) ?_
  simp -implicitDefEqProofs only [go_sem]
  rfl
theorem by8_mkI (bs : List Int) : (bs.map fun b => [T.int .u8 b]).map (List.map (T.mk false)) = bs.map fun b => [T.int .u8 b] := Am.mk_rows _ (fun _ => rfl) bs
attribute [go_sem] by8_mkI
theorem p_DrawLeaderNew : Plain Tryz.prog 5 := ⟨_, Tryz.func5, rfl, by decide⟩
theorem s_DrawLeaderNew (bs : List Int) (hb : ∀ x ∈ bs, 0 ≤ x ∧ x ≤ 255) (hl : bs.length ≤ 1048576) : Spec Tryz.prog 5 [by8 bs] (fun r => ∃ n : Int, r = I n ∧ 0 ≤ n ∧ n ≤ 4) := by
  obtain ⟨cs, hd, ho⟩ := s_l1Open bs hb hl
  refine Spec.of tysOk mixed Tryz.func5 rfl (by decide) ?_
  simp -implicitDefEqProofs only [go_sem, Tryz.f5]
  refine CallW.box ho p_l1Open rfl rfl rfl rfl rfl (by decide) ?_
  simp -implicitDefEqProofs only [go_sem]
  refine CallW.o [(9000, 41)] (s_pick cs 0 5 hd (by omega)) p_pick o18 rfl (by (conv => lhs; simp -implicitDefEqProofs only [go_sem]) <;> rfl) (by (simp -implicitDefEqProofs only [go_sem]) <;> rfl) ?_
  rintro _ _ ⟨⟨v, rfl, v0, v1⟩, rfl⟩
  simp -implicitDefEqProofs only [go_sem]
  exact ⟨v, rfl, v0, by omega⟩
theorem s_FnLeaderNew (bs : List Int) (hb : lG isB bs) : Spec Tryz.prog 3 [by8 bs] (fun r => r = Bo true) := by
  refine Spec.of tysOk mixed Tryz.func3 rfl (by decide) ?_
  simp -implicitDefEqProofs only [go_sem, Tryz.f3]
  refine BrA_i (fun h1 => ?_) (fun h1 => ?_) <;> simp -implicitDefEqProofs only [go_sem]
  have h1 : bs.length ≤ 1048576 := by have := of_decide_eq_false h1; omega
  refine CallW.p (s_DrawLeaderNew bs hb.2 h1) p_DrawLeaderNew (by first | (simp -implicitDefEqProofs only [go_sem]; done) | ((conv => lhs; simp -implicitDefEqProofs only [go_sem]); done) | (simp -implicitDefEqProofs only [go_sem]; rfl) | rfl) rfl ?_
  rintro _ ⟨n, rfl, n0, n4⟩
  have hs := leaderNewM_sm n
  simp -implicitDefEqProofs only [go_sem]
  refine CallW.onep (s_LeaderNew n) p_LeaderNew (by first | (simp -implicitDefEqProofs only [go_sem]; done) | ((conv => lhs; simp -implicitDefEqProofs only [go_sem]); done) | (simp -implicitDefEqProofs only [go_sem]; rfl) | rfl) rfl ?_
  simp -implicitDefEqProofs only [go_sem]
  by_cases hn : 1 ≤ n ∧ n ≤ 3
  · have hm : withinM n 1 3 = true := by simp [withinM]; omega
    have e : leaderNewM n = ⟨⟨b0, ⟨#[]⟩, List.replicate n.toNat clZ⟩, 1⟩ := by simp [leaderNewM, serverNewM, hm]
    have q1 : decide (n < 1) = false := decide_eq_false (by omega)
    have q2 : decide (n > 3) = false := decide_eq_false (by omega)
    refine RegD_to sch_3_5 ?sx1 tysOk (by kernel_rfl) ?ga1 ?gb1
    case ga1 =>
      simp -implicitDefEqProofs only [go_sem, q1, q2]
      repeat' (first
        | (with_reducible refine And.intro ?_ ?_)
        | (refine CallW.onep (s_sLeaderNew n) p_sLeaderNew (by first | (simp -implicitDefEqProofs only [go_sem]; done) | ((conv => lhs; simp -implicitDefEqProofs only [go_sem]); done) | (simp -implicitDefEqProofs only [go_sem]; rfl) | rfl) rfl ?_; simp -implicitDefEqProofs only [go_sem, q1, q2])
        | (refine CallW.one (s_qxLeader (leaderNewM n) (leaderNewM n) hs) p_qxLeader (by first | (simp -implicitDefEqProofs only [go_sem]; done) | ((conv => lhs; simp -implicitDefEqProofs only [go_sem]); done) | (simp -implicitDefEqProofs only [go_sem]; rfl) | rfl) (by first | trivial | (simp [DeepR, DeepV, DeepVs, DeepC, DeepCs, T.scal]; done)) ?_; simp -implicitDefEqProofs only [go_sem, eq_self, decide_true, Bool.not_true, q1, q2])
        | exact rfl)
    simp -implicitDefEqProofs only [go_sem]
    have hl : 1 ≤ (List.replicate n.toNat clZ).length ∧ (List.replicate n.toNat clZ).length ≤ 3 := by rw [List.length_replicate]; omega
    have hc : ∀ c ∈ List.replicate n.toNat clZ, c = clZ := fun c hc => List.eq_of_mem_replicate hc
    rw [e]
    have p_PackFor0 := p_PackFor
    refine CallW.one (s_PackFor0 _ hl hc) p_PackFor0 (by first | (simp -implicitDefEqProofs only [go_sem]; done) | ((conv => lhs; simp -implicitDefEqProofs only [go_sem]); done) | (simp -implicitDefEqProofs only [go_sem]; rfl) | rfl) (by first | trivial | (simp [DeepR, DeepV, DeepVs, DeepC, DeepCs, T.scal]; done)) ?_
    simp -implicitDefEqProofs only [go_sem]
    have p_LeaderOk0 := p_LeaderOk
    refine CallW.one (s_LeaderOk0 _ hl hc) p_LeaderOk0 (by first | (simp -implicitDefEqProofs only [go_sem]; done) | ((conv => lhs; simp -implicitDefEqProofs only [go_sem]); done) | (simp -implicitDefEqProofs only [go_sem]; rfl) | rfl) (by first | trivial | (simp [DeepR, DeepV, DeepVs, DeepC, DeepCs, T.scal]; done)) ?_
    simp -implicitDefEqProofs only [go_sem, eq_self, decide_true]
    have p_FollowerLag0 := p_FollowerLag
    refine CallW.one (s_FollowerLag0 _ hl hc) p_FollowerLag0 (by first | (simp -implicitDefEqProofs only [go_sem]; done) | ((conv => lhs; simp -implicitDefEqProofs only [go_sem]); done) | (simp -implicitDefEqProofs only [go_sem]; rfl) | rfl) (by first | trivial | (simp [DeepR, DeepV, DeepVs, DeepC, DeepCs, T.scal]; done)) ?_
    simp -implicitDefEqProofs only [go_sem, eq_self, decide_true]
  by_cases hn1 : n < 1
  · have q1 : decide (n < 1) = true := decide_eq_true hn1
    refine RegD_to sch_3_5 ?sx2 tysOk (by kernel_rfl) ?ga2 ?gb2
    case ga2 =>
      simp -implicitDefEqProofs only [go_sem, q1]
      repeat' (first
        | (with_reducible refine And.intro ?_ ?_)
        | (refine CallW.onep (s_sLeaderNew n) p_sLeaderNew (by first | (simp -implicitDefEqProofs only [go_sem]; done) | ((conv => lhs; simp -implicitDefEqProofs only [go_sem]); done) | (simp -implicitDefEqProofs only [go_sem]; rfl) | rfl) rfl ?_; simp -implicitDefEqProofs only [go_sem, q1])
        | (refine CallW.one (s_qxLeader (leaderNewM n) (leaderNewM n) hs) p_qxLeader (by first | (simp -implicitDefEqProofs only [go_sem]; done) | ((conv => lhs; simp -implicitDefEqProofs only [go_sem]); done) | (simp -implicitDefEqProofs only [go_sem]; rfl) | rfl) (by first | trivial | (simp [DeepR, DeepV, DeepVs, DeepC, DeepCs, T.scal]; done)) ?_; simp -implicitDefEqProofs only [go_sem, eq_self, decide_true, Bool.not_true, q1])
        | exact rfl)
    simp -implicitDefEqProofs only [go_sem]
    refine RegD_to sch_3_6 ?sx3 tysOk (by kernel_rfl) ?ga3 ?gb3
    case ga3 =>
      simp -implicitDefEqProofs only [go_sem]
      repeat' (first
        | (with_reducible refine And.intro ?_ ?_)
        | (refine CallW.onep (s_sLeaderNew n) p_sLeaderNew (by first | (simp -implicitDefEqProofs only [go_sem]; done) | ((conv => lhs; simp -implicitDefEqProofs only [go_sem]); done) | (simp -implicitDefEqProofs only [go_sem]; rfl) | rfl) rfl ?_; simp -implicitDefEqProofs only [go_sem])
        | (refine CallW.one (s_qxLeader (leaderNewM n) (leaderNewM n) hs) p_qxLeader (by first | (simp -implicitDefEqProofs only [go_sem]; done) | ((conv => lhs; simp -implicitDefEqProofs only [go_sem]); done) | (simp -implicitDefEqProofs only [go_sem]; rfl) | rfl) (by first | trivial | (simp [DeepR, DeepV, DeepVs, DeepC, DeepCs, T.scal]; done)) ?_; simp -implicitDefEqProofs only [go_sem, eq_self, decide_true])
        | exact rfl)
    simp -implicitDefEqProofs only [go_sem]
  · have q1 : decide (n < 1) = false := decide_eq_false hn1
    have q2 : decide (n > 3) = true := decide_eq_true (by omega)
    refine RegD_to sch_3_5 ?sx4 tysOk (by kernel_rfl) ?ga4 ?gb4
    case ga4 =>
      simp -implicitDefEqProofs only [go_sem, q1, q2]
      repeat' (first
        | (with_reducible refine And.intro ?_ ?_)
        | (refine CallW.onep (s_sLeaderNew n) p_sLeaderNew (by first | (simp -implicitDefEqProofs only [go_sem]; done) | ((conv => lhs; simp -implicitDefEqProofs only [go_sem]); done) | (simp -implicitDefEqProofs only [go_sem]; rfl) | rfl) rfl ?_; simp -implicitDefEqProofs only [go_sem, q1, q2])
        | (refine CallW.one (s_qxLeader (leaderNewM n) (leaderNewM n) hs) p_qxLeader (by first | (simp -implicitDefEqProofs only [go_sem]; done) | ((conv => lhs; simp -implicitDefEqProofs only [go_sem]); done) | (simp -implicitDefEqProofs only [go_sem]; rfl) | rfl) (by first | trivial | (simp [DeepR, DeepV, DeepVs, DeepC, DeepCs, T.scal]; done)) ?_; simp -implicitDefEqProofs only [go_sem, eq_self, decide_true, Bool.not_true, q1, q2])
        | exact rfl)
    simp -implicitDefEqProofs only [go_sem]
    refine RegD_to sch_3_6 ?sx5 tysOk (by kernel_rfl) ?ga5 ?gb5
    case ga5 =>
      simp -implicitDefEqProofs only [go_sem]
      repeat' (first
        | (with_reducible refine And.intro ?_ ?_)
        | (refine CallW.onep (s_sLeaderNew n) p_sLeaderNew (by first | (simp -implicitDefEqProofs only [go_sem]; done) | ((conv => lhs; simp -implicitDefEqProofs only [go_sem]); done) | (simp -implicitDefEqProofs only [go_sem]; rfl) | rfl) rfl ?_; simp -implicitDefEqProofs only [go_sem])
        | (refine CallW.one (s_qxLeader (leaderNewM n) (leaderNewM n) hs) p_qxLeader (by first | (simp -implicitDefEqProofs only [go_sem]; done) | ((conv => lhs; simp -implicitDefEqProofs only [go_sem]); done) | (simp -implicitDefEqProofs only [go_sem]; rfl) | rfl) (by first | trivial | (simp [DeepR, DeepV, DeepVs, DeepC, DeepCs, T.scal]; done)) ?_; simp -implicitDefEqProofs only [go_sem, eq_self, decide_true])
        | exact rfl)
    simp -implicitDefEqProofs only [go_sem]
end Go.Proofs.YtcpfhonmdbhdbaaGreatDoor.Am
