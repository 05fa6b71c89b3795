/- Nothing more of the shelf is wanted here; no condition. -/
import Derived.Test.YtbllodeanfdebaaGreatDoorShelf
